/- Spans of seconds: walked by hand. -/
import Derived.Test.YtallfkecjibpmaaDoorTapS
import Derived.Test.YtallfkecjibpmaaDoorNum
import Derived.WalkKit
import Derived.BigCall
import Derived.Deep.QuietTactic
import Derived.BigQuiet
import Derived.Lib.AtoiErrMem
set_option linter.unusedVariables false
set_option linter.unusedSimpArgs false
namespace Go.Proofs.YtallfkecjibpmaaDoor.G
open Go.RowKit Go.Proofs.YtallfkecjibpmaaDoorW.PrintWords Go.Proofs.YtallfkecjibpmaaDoor.Nm Go.Lib
def namesA : Array Value := #[.int .u8 100, .int .u8 104, .int .u8 109, .int .u8 115]
def sizesA : Array Value := #[.int .i64 86400, .int .i64 3600, .int .i64 60, .int .i64 1]
set_option maxHeartbeats 400000 in
set_option maxRecDepth 100000 in
theorem units_any (w : World) :
    Calls Tryd.prog 58 #[] w fun e w' => e = .returned (.tuple #[.agg namesA, .agg sizesA]) ∧ Below w.heap.size w w' := by
  have hu := Tryd.underlying73
  have hv := Tryd.underlying74
  go_enter Tryd.func58, Tryd.ntmps58
  go_wp2
  refine bodyPost_ret (v := .tuple #[.agg namesA, .agg sizesA]) (by simp [results, Tryd.results58, go_sem, namesA, sizesA]) rfl ⟨rfl, ?_⟩
  exact ((Below.refl _ w).alloc (Nat.le_refl _) _).alloc (by simp) _
/-- The two arrays of a call's own: names and sizes. -/
def Units (g h : Nat) (w : World) : Prop := w.heap[g]? = some (.cells namesA 73) ∧ w.heap[h]? = some (.cells sizesA 74)
/-- The byte at a place. -/
def bAt (s : ByteArray) (i : Nat) : UInt8 := s.data.toList.getD i 0
theorem bt_bAt (s : ByteArray) (i : Nat) : bt s (i : Int) = ((bAt s i).toNat : Int) := by
  unfold bt bAt
  rw [Int.toNat_natCast]
  split
  case isTrue h =>
    have h' : i < s.data.toList.length := by rw [← size_len]; exact h
    rw [List.getD_eq_getElem?_getD, List.getElem?_eq_getElem h']
    rfl
  case isFalse h =>
    have h' : s.data.toList.length ≤ i := by rw [← size_len]; omega
    rw [List.getD_eq_getElem?_getD, List.getElem?_eq_none h']
    rfl
theorem at_bAt (s : ByteArray) (i : Nat) (h : i < s.size) : ((s[i]'h).toNat : Int) = ((bAt s i).toNat : Int) := by
  have := (bt_at s (i : Int) (by rw [Int.toNat_natCast]; exact h)).trans (bt_bAt s i)
  simpa using this
theorem drop_bAt (s : ByteArray) (i : Nat) (h : i < s.size) : s.data.toList.drop i = bAt s i :: s.data.toList.drop (i + 1) := by
  have h' : i < s.data.toList.length := by rw [← size_len]; exact h
  unfold bAt
  rw [List.getD_eq_getElem?_getD, List.getElem?_eq_getElem h']
  exact List.drop_eq_getElem_cons h'
/-- Where the digits from i on end. -/
def dEnd (s : ByteArray) (i : Nat) : Nat := i + ((s.data.toList.drop i).takeWhile isDb).length
def skipB (s : ByteArray) (first : Bool) (i : Nat) : Nat := if first = false ∧ bAt s i = 32 then i + 1 else i
theorem dEnd_le (s : ByteArray) (i : Nat) (h : i ≤ s.size) : i ≤ dEnd s i ∧ dEnd s i ≤ s.size := by
  unfold dEnd
  have h1 : ((s.data.toList.drop i).takeWhile isDb).length ≤ (s.data.toList.drop i).length := List.Sublist.length_le (List.takeWhile_sublist _)
  rw [List.length_drop, ← size_len] at h1
  omega
theorem tw_at : ∀ (l : List UInt8) (k : Nat), k < (l.takeWhile isDb).length → isD (l.getD k 0)
  | [], k, h => by simp at h
  | c :: r, k, h => by
    rw [List.takeWhile_cons] at h
    split at h
    · rename_i hc
      cases k with
      | zero => simpa [isDb] using hc
      | succ k =>
        rw [List.length_cons] at h
        exact tw_at r k (by omega)
    · simp at h
theorem tw_stop : ∀ (l : List UInt8), (l.takeWhile isDb).length < l.length → ¬ isD (l.getD (l.takeWhile isDb).length 0)
  | [], h => by simp at h
  | c :: r, h => by
    rw [List.takeWhile_cons] at h ⊢
    split
    · rename_i hc
      rw [if_pos hc] at h
      rw [List.length_cons, List.length_cons] at h
      have := tw_stop r (by omega)
      rw [List.length_cons]
      exact this
    · rename_i hc
      simpa [isDb] using hc
theorem getD_drop (l : List UInt8) (i k : Nat) : (l.drop i).getD k 0 = l.getD (i + k) 0 := by
  rw [List.getD_eq_getElem?_getD, List.getD_eq_getElem?_getD, List.getElem?_drop]
theorem dEnd_in (s : ByteArray) (i k : Nat) (h1 : i ≤ k) (h2 : k < dEnd s i) : isD (bAt s k) := by
  unfold dEnd at h2
  have := tw_at (s.data.toList.drop i) (k - i) (by omega)
  rw [getD_drop, show i + (k - i) = k by omega] at this
  exact this
theorem dEnd_out (s : ByteArray) (i : Nat) (hi : i ≤ s.size) (h : dEnd s i < s.size) : ¬ isD (bAt s (dEnd s i)) := by
  have := tw_stop (s.data.toList.drop i) (by rw [List.length_drop, ← size_len]; unfold dEnd at h; omega)
  rw [getD_drop] at this
  exact this
theorem take_dEnd (s : ByteArray) (i : Nat) : (s.data.toList.drop i).takeWhile isDb = (s.data.toList.drop i).take (dEnd s i - i) := by
  unfold dEnd
  rw [show i + ((s.data.toList.drop i).takeWhile isDb).length - i = ((s.data.toList.drop i).takeWhile isDb).length by omega]
  exact (List.prefix_iff_eq_take.1 (List.takeWhile_prefix _))
theorem drop_dEnd (s : ByteArray) (i : Nat) : (s.data.toList.drop i).dropWhile isDb = s.data.toList.drop (dEnd s i) := by
  have h := List.takeWhile_append_dropWhile (p := isDb) (l := s.data.toList.drop i)
  have h2 : ((s.data.toList.drop i).takeWhile isDb ++ (s.data.toList.drop i).dropWhile isDb).drop ((s.data.toList.drop i).takeWhile isDb).length = (s.data.toList.drop i).dropWhile isDb := List.drop_left
  rw [h, List.drop_drop] at h2
  exact h2.symm
/-- The number that the digits from i up to j are. -/
def numAt (s : ByteArray) (i j : Nat) : Nat := val ((s.data.toList.drop i).take (j - i))
/-- One round of reading a span. -/
theorem pS_step (s : ByteArray) (first : Bool) (u t F i i1 j : Nat) (hi : i < s.size) (hi1 : i1 = skipB s first i) (hj : j = dEnd s i1) :
    pS (F + 1) (s.data.toList.drop i) first u t = if j = i1 ∨ 9 < j - i1 ∨ j = s.size then none else if findU u (bAt s j) = 4 then none else pS F (s.data.toList.drop (j + 1)) false (findU u (bAt s j) + 1) (t + numAt s i1 j * usz (findU u (bAt s j))) := by
  have hb := dEnd_le s i1 (by rw [hi1]; unfold skipB; split <;> omega)
  have hl1 : (if first = false ∧ bAt s i = 32 then s.data.toList.drop (i + 1) else bAt s i :: s.data.toList.drop (i + 1)) = s.data.toList.drop i1 := by
    rw [hi1]
    unfold skipB
    by_cases h : first = false ∧ bAt s i = 32
    · rw [if_pos h, if_pos h]
    · rw [if_neg h, if_neg h, drop_bAt s i hi]
  rw [drop_bAt s i hi, pS]
  rw [hl1, take_dEnd, drop_dEnd, ← hj]
  rw [← hj] at hb
  have hlen : ((s.data.toList.drop i1).take (j - i1)).length = j - i1 := by rw [List.length_take, List.length_drop, ← size_len]; omega
  by_cases h1 : j = i1
  · rw [if_pos (.inl (List.eq_nil_of_length_eq_zero (by rw [hlen]; omega))), if_pos (.inl h1)]
  by_cases h2 : 9 < j - i1
  · rw [if_pos (.inr (by rw [hlen]; exact h2)), if_pos (.inr (.inl h2))]
  rw [if_neg (by
    rintro (h | h)
    · rw [h] at hlen
      simp at hlen
      omega
    · rw [hlen] at h; exact h2 h)]
  by_cases h3 : j = s.size
  · rw [if_pos (.inr (.inr h3)), List.drop_of_length_le (by rw [← size_len]; omega)]
  rw [if_neg (by rintro (h | h | h); exact h1 h; exact h2 h; exact h3 h), drop_bAt s j (by omega)]
  rfl
theorem num_lt (s : ByteArray) (i : Nat) (hi : i ≤ s.size) (h : ¬ 9 < dEnd s i - i) : numAt s i (dEnd s i) < 1000000000 := by
  unfold numAt
  rw [← take_dEnd]
  have h1 := val_bound ((s.data.toList.drop i).takeWhile isDb) (fun c hc => by
    have := List.all_takeWhile (p := isDb) (l := s.data.toList.drop i)
    rw [List.all_eq_true] at this
    simpa [isDb] using this c hc)
  have h2 : ((s.data.toList.drop i).takeWhile isDb).length ≤ 9 := by unfold dEnd at h; omega
  have h3 : 10 ^ ((s.data.toList.drop i).takeWhile isDb).length ≤ 10 ^ 9 := Nat.pow_le_pow_right (by decide) h2
  have h4 : (10 : Nat) ^ 9 = 1000000000 := by decide
  omega
theorem usz_le (u : Nat) : 1 ≤ usz u ∧ usz u ≤ 86400 := by unfold usz; split <;> omega
/-- Atoi of the digits. -/
theorem atoi_any (s : ByteArray) (i j : Nat) (hij : i < j) (hj : j ≤ s.size) (h9 : j - i ≤ 9) (hd : ∀ k, i ≤ k → k < j → isD (bAt s k)) (w : World) :
    Calls Tryd.prog 59 #[.string (s.extract i j)] w fun e w' => e = .returned (.tuple #[.int .i64 (numAt s i j : Int), .nilIface]) ∧ Below w.heap.size w w' := by
  have hx : (s.extract i j).data.toList = (s.data.toList.drop i).take (j - i) := Lib.extract_data s i j
  have hz : (s.extract i j).size = j - i := by rw [ByteArray.size_extract]; omega
  have ha := atoi_dig ((s.data.toList.drop i).take (j - i)) (fun h => by
    have := congrArg List.length h
    rw [List.length_take, List.length_drop, ← size_len, List.length_nil] at this
    omega) (fun c hc => by
      obtain ⟨k, hk, rfl⟩ := List.getElem_of_mem hc
      have hk2 := hk
      rw [List.length_take, List.length_drop, ← size_len] at hk2
      have := hd (i + k) (by omega) (by omega)
      unfold bAt at this
      rw [List.getD_eq_getElem?_getD, List.getElem?_eq_getElem (by rw [← size_len]; omega)] at this
      rw [List.getElem_take, List.getElem_drop]
      exact this) (by rw [List.length_take]; omega)
  rw [atoiAll_short _ (by rw [List.length_take]; omega)] at ha
  have hat : Lib.atoi (s.extract i j).data.toList = some ((numAt s i j : Nat) : Int) := by
    rw [hx]
    unfold numAt
    cases h : Lib.atoi ((s.data.toList.drop i).take (j - i)) with
    | none => rw [h] at ha; cases ha
    | some v =>
      rw [h] at ha
      have : v = (val ((s.data.toList.drop i).take (j - i)) : Int) := by injection ha
      rw [this]
  exact (Tryd.strconv_Atoi (s.extract i j) _ (by omega) hat w).mono fun e w' ⟨h1, t, h2⟩ => ⟨h1, h2 ▸ bytesWorld_below _ _ _⟩
def psR (s : ByteArray) : Option Nat := pS (s.size + 1) s.data.toList true 0 0
/-- What ParseSpan gives. -/
def psRes (s : ByteArray) : Int × Int := if s.size = 0 then (0, 2) else match psR s with
  | none => (0, 2)
  | some t => if 1000000000 < t then (0, 1) else ((t : Int), 0)
theorem psRes_none {s : ByteArray} (h : psR s = none) : psRes s = (0, 2) := by
  unfold psRes
  rw [h]
  split <;> rfl
def At4 (g : Nat) (wr : World) : Prop := ∀ k : Nat, k < 4 → wr.cell? ⟨g, k, none⟩ = some (.int .u8 ((unm k).toNat : Int)) ∧ wr.cell? ⟨g + 1, k, none⟩ = some (.int .i64 (usz k : Int))
theorem At4.below {g : Nat} {A B : World} (h : At4 g A) (hg : g + 1 < A.heap.size) (hb : Below A.heap.size A B) : At4 g B := fun k hk =>
  ⟨(hb.cell (p := ⟨g, k, none⟩) (show g < _ by omega)).trans (h k hk).1, (hb.cell (p := ⟨g + 1, k, none⟩) (show g + 1 < _ from hg)).trans (h k hk).2⟩
theorem At4.new (w1 : World) : At4 w1.heap.size ((w1.alloc (.cells namesA 73)).alloc (.cells sizesA 74)) := fun k hk => by
  have : k = 0 ∨ k = 1 ∨ k = 2 ∨ k = 3 := by omega
  rcases this with rfl | rfl | rfl | rfl <;> (constructor <;> (unfold namesA sizesA; simp [unm, usz]))
set_option maxHeartbeats 4000000 in
set_option maxRecDepth 100000 in
theorem ParseSpan_any (s : ByteArray) (w : World) (hs : s.size ≤ 1000000000) :
    Calls Tryd.prog 26 #[.string s] w fun e w' => e = .returned (.tuple #[.int .i64 (psRes s).1, .int .i64 (psRes s).2]) ∧ Below w.heap.size w w' := by
  have hu := Tryd.underlying73
  have hv := Tryd.underlying74
  have hU := Aside0.mk units_any
  obtain ⟨R, hR⟩ : ∃ R, psRes s = R := ⟨_, rfl⟩
  have hNone := Aside0.mk (fun (h : psR s = none) => (psRes_none h).symm.trans hR)
  rw [hR]
  have hRA := Aside0.mk hR
  clear hR
  go_enter Tryd.func26, Tryd.ntmps26
  go_wp2_with (go_at_call 58; refine (hU.out _).mono ?_; rintro e w1 ⟨rfl, hb1⟩; unfold namesA sizesA)
  have hA0 := Aside0.mk (At4.new w1)
  unfold namesA sizesA at hA0
  have hB0 : Below w.heap.size w ((w1.alloc (.cells #[.int .u8 100, .int .u8 104, .int .u8 109, .int .u8 115] 73)).alloc (.cells #[.int .i64 86400, .int .i64 3600, .int .i64 60, .int .i64 1] 74)) := (hb1.alloc hb1.size _).alloc (by have := hb1.size; simp; omega) _
  obtain ⟨W, hW⟩ : ∃ W : World, W = ((w1.alloc (.cells #[.int .u8 100, .int .u8 104, .int .u8 109, .int .u8 115] 73)).alloc (.cells #[.int .i64 86400, .int .i64 3600, .int .i64 60, .int .i64 1] 74)) := ⟨_, rfl⟩
  rw [← hW] at hA0 hB0 ⊢
  have hgs : w1.heap.size + 1 < W.heap.size := by rw [hW]; simp
  clear hW hb1
  generalize w1.heap.size = g at *
  go_loopw [6, 7, 8] (fun tv uv iv wr => ∃ (i u t : Nat), tv = .int .i64 t ∧ uv = .int .i64 u ∧ iv = .int .i64 i ∧ i ≤ s.size ∧ u ≤ 4 ∧ t ≤ u * 86400000000000 ∧ Aside0 (At4 g wr) ∧ Below w.heap.size w wr ∧ g + 1 < wr.heap.size ∧ Aside0 (∃ F, s.size - i < F ∧ pS F (s.data.toList.drop i) (decide (i = 0)) u t = psR s)) (fun _ _ iv _ => s.size - (Go.RowKit.intOf iv).toNat)
  case atStart => exact ⟨0, 0, 0, rfl, rfl, rfl, by omega, by omega, by omega, hA0, hB0, hgs, ⟨s.size + 1, by omega, rfl⟩⟩
  case round =>
    obtain ⟨i, u, t, rfl, rfl, rfl, hi, hu4, ht, hA, hB, hg, hP⟩ := hrel
    obtain ⟨wo, rfl⟩ : ∃ wo : World, wo = wr := ⟨_, rfl⟩
    by_cases hlt : i < s.size
    · obtain ⟨i1, hi1⟩ : ∃ i1, i1 = skipB s (decide (i = 0)) i := ⟨_, rfl⟩
      obtain ⟨j, hj⟩ : ∃ j, j = dEnd s i1 := ⟨_, rfl⟩
      have hi1b : i ≤ i1 ∧ i1 ≤ i + 1 := by rw [hi1]; unfold skipB; split <;> omega
      have hjb := dEnd_le s i1 (by omega)
      rw [← hj] at hjb
      have hst := Aside0.mk (fun F => pS_step s (decide (i = 0)) u t F i i1 j hlt hi1 hj)
      have hin := Aside0.mk (fun k h1 h2 => dEnd_in s i1 k h1 (by rw [← hj]; exact h2))
      have hout := Aside0.mk (show j < s.size → ¬ isD (bAt s j) from fun h => by rw [hj]; exact dEnd_out s i1 (by omega) (by rw [← hj]; exact h))
      have hnum := Aside0.mk (show ¬ 9 < j - i1 → numAt s i1 j < 1000000000 from fun h => by rw [hj] at h ⊢; exact num_lt s i1 (by omega) h)
      have hbi := at_bAt s i hlt
      have hiA := Aside0.mk hi1
      clear hj hi1
      obtain ⟨sk, hsk⟩ : ∃ sk : Bool, sk = decide (i1 = i + 1) := ⟨_, rfl⟩
      have hskA := Aside0.mk hsk
      clear hsk
      go_upto_region 5 with (fail)
      go_cut [27] (fun v27 wc => v27 = .bool sk ∧ wc = wo)
      case first =>
        by_cases h0 : i = 0
        · subst h0
          have hs0 : sk = false := by
            rw [hskA.out, hiA.out]; unfold skipB; rw [if_neg (by simp)]; rfl
          clear hiA hbi hskA
          subst hs0
          go_wp2
          go_meet
          case rel => exact ⟨rfl, rfl⟩
        · by_cases h32 : ((bAt s i).toNat : Int) = 32
          · have h32b : (((bAt s i).toNat : Int) == 32) = true := beq_iff_eq.2 h32
            have hs0 : sk = true := by
              rw [hskA.out, hiA.out]; unfold skipB
              rw [if_pos ⟨by simpa using h0, UInt8.toNat_inj.1 (show (bAt s i).toNat = 32 by omega)⟩]
              simp
            have h1i : 0 < i := by omega
            clear hiA h32 hskA
            subst hs0
            go_wp2
            go_meet
            case rel => exact ⟨rfl, rfl⟩
          · have h32b : (((bAt s i).toNat : Int) == 32) = false := beq_eq_false_iff_ne.2 h32
            have hs0 : sk = false := by
              rw [hskA.out, hiA.out]; unfold skipB
              rw [if_neg (by rintro ⟨_, h⟩; rw [h] at h32; exact h32 rfl)]
              simp
            have h1i : 0 < i := by omega
            clear hiA h32 hskA
            subst hs0
            go_wp2
            go_meet
            case rel => exact ⟨rfl, rfl⟩
      case rest =>
        obtain ⟨rfl, hwc⟩ := hcut
        subst hwc
        clear hbi
        have hsk2 := hskA.out
        have hi2 : i1 = if sk then i + 1 else i := by
          rw [hsk2]
          have := hiA.out
          unfold skipB at this
          split at this <;> (rw [this]; simp)
        clear hskA hiA hsk2
        obtain ⟨wc1, rfl⟩ : ∃ wc1 : World, wc1 = wc := ⟨_, rfl⟩
        have hi2A := Aside0.mk hi2
        clear hi2
        go_upto_if 27 with (fail)
        go_cut [8] (fun v8 wc => v8 = .int .i64 i1 ∧ wc = wc1)
        case first =>
          cases sk with
          | true =>
            have := hi2A.out
            simp only [if_true] at this
            clear hi2A
            subst this
            go_wp2
            go_meet
            case rel => exact ⟨by first | rfl | go_num | simp, rfl⟩
          | false =>
            have := hi2A.out
            simp only [Bool.false_eq_true, if_false] at this
            clear hi2A
            subst this
            go_wp2
            go_meet
            case rel => exact ⟨rfl, rfl⟩
        case rest =>
        obtain ⟨rfl, hwc⟩ := hcut
        subst hwc
        clear hi2A
        obtain ⟨wc0, rfl⟩ : ∃ wc0 : World, wc0 = wc := ⟨_, rfl⟩
        go_upto_block 2 with (fail)
        go_cut [8] (fun v8 wc => v8 = .int .i64 j ∧ wc = wc0)
        case first =>
          go_wp2_with fail
          go_loop [8] (fun v8 => ∃ k : Nat, v8 = .int .i64 k ∧ i1 ≤ k ∧ k ≤ j) (fun v8 => j - (Go.RowKit.intOf v8).toNat)
          case atStart => exact ⟨i1, rfl, by omega, by omega⟩
          case round =>
            obtain ⟨k, rfl, hk1, hk2⟩ := hrel
            by_cases hkj : k < j
            · have hd := hin.out k hk1 hkj
              unfold isD at hd
              obtain ⟨hd1, hd2⟩ := hd
              have hd3 : (48 : Int) ≤ ((bAt s k).toNat : Int) := by omega
              have hd4 : ((bAt s k).toNat : Int) ≤ 57 := by omega
              have hks : k < s.size := by omega
              have hbk := at_bAt s k hks
              go_wp2
              go_round
              case rel => exact ⟨k + 1, by go_num, by omega, by omega⟩
              case measure => simp [Go.RowKit.intOf]; omega
            · have hkj2 : k = j := by omega
              subst hkj2
              by_cases hks : k < s.size
              · have hd := hout.out hks
                have hbk := at_bAt s k hks
                unfold isD at hd
                by_cases h48 : 48 ≤ (bAt s k).toNat
                · have hd3 : (48 : Int) ≤ ((bAt s k).toNat : Int) := by omega
                  have hd4 : ¬ ((bAt s k).toNat : Int) ≤ 57 := by omega
                  go_wp2
                  go_meet
                  case rel => exact ⟨rfl, rfl⟩
                · have hd3 : ¬ (48 : Int) ≤ ((bAt s k).toNat : Int) := by omega
                  go_wp2
                  go_meet
                  case rel => exact ⟨rfl, rfl⟩
              · go_wp2
                go_meet
                case rel => exact ⟨rfl, rfl⟩
        case rest =>
          obtain ⟨rfl, hwc⟩ := hcut
          subst hwc
          obtain ⟨wX, rfl⟩ : ∃ wX : World, wX = wc := ⟨_, rfl⟩
          obtain ⟨F, hF, hPF⟩ := hP.out
          clear hP
          obtain ⟨F', rfl⟩ : ∃ F', F = F' + 1 := ⟨F - 1, by omega⟩
          rw [hst.out F'] at hPF
          clear hst
          by_cases c1 : j = i1
          · rw [if_pos (.inl c1)] at hPF
            obtain rfl := hNone.out hPF.symm
            clear hPF hNone hRA hin hout hnum
            subst c1
            go_wp2
            go_ret2
            exact ⟨rfl, hB⟩
          by_cases c2 : 9 < j - i1
          · rw [if_pos (.inr (.inl c2))] at hPF
            obtain rfl := hNone.out hPF.symm
            clear hPF hNone hRA hin hout hnum
            have d1 : (((j : Nat) : Int) == (i1 : Int)) = false := by rw [beq_eq_false_iff_ne]; omega
            have d2 : (9 : Int) < (j : Int) - (i1 : Int) := by omega
            go_wp2
            go_ret2
            exact ⟨rfl, hB⟩
          by_cases c3 : j = s.size
          · rw [if_pos (.inr (.inr c3))] at hPF
            obtain rfl := hNone.out hPF.symm
            clear hPF hNone hRA hin hout hnum
            have d1 : (((j : Nat) : Int) == (i1 : Int)) = false := by rw [beq_eq_false_iff_ne]; omega
            have d2 : (j : Int) - (i1 : Int) ≤ 9 := by omega
            have d3 : (((j : Nat) : Int) == (s.size : Int)) = true := by rw [beq_iff_eq]; omega
            clear c3
            go_wp2
            go_ret2
            exact ⟨rfl, hB⟩
          rw [if_neg (by rintro (h | h | h); exact c1 h; exact c2 h; exact c3 h)] at hPF
          have hjs : j < s.size := by omega
          have hbj := at_bAt s j hjs
          have hm := Aside0.mk (hnum.out c2)
          have hat := Aside0.mk (fun W => atoi_any s i1 j (by omega) (by omega) (by omega) hin.out W)
          have d1 : (((j : Nat) : Int) == (i1 : Int)) = false := by rw [beq_eq_false_iff_ne]; omega
          have d2 : (j : Int) - (i1 : Int) ≤ 9 := by omega
          have d3 : (((j : Nat) : Int) == (s.size : Int)) = false := by rw [beq_eq_false_iff_ne]; omega
          obtain ⟨ue, hue⟩ : ∃ ue, findU u (bAt s j) = ue := ⟨_, rfl⟩
          rw [hue] at hPF
          have hPA := Aside0.mk hPF
          clear hPF hin hout hnum
          have hueb : u ≤ ue ∧ ue ≤ 4 := by
            have := findF_le (4 - u) u (bAt s j)
            unfold findU at hue
            omega
          have hueA := Aside0.mk hue
          clear hue
          go_upto_block 4 with (fail)
          go_cut [7] (fun v7 wc => v7 = .int .i64 ue ∧ ∃ n : Nat, wc = wX.drewN n)
          case first =>
            go_wp2_with fail
            go_loopw [7] (fun v wr => ∃ u' : Nat, v = .int .i64 u' ∧ u' ≤ ue ∧ Aside0 (findU u' (bAt s j) = ue) ∧ ∃ n : Nat, wr = wX.drewN n) (fun v _ => ue - (Go.RowKit.intOf v).toNat)
            case atStart => exact ⟨u, rfl, by omega, hueA, 0, rfl⟩
            case round =>
              obtain ⟨u', rfl, hu1, hfu, n, rfl⟩ := hrel
              by_cases h4 : u' < 4
              · have hcell : Aside0 ((wX.drewN n).cell? ⟨g, u', none⟩ = some (.int .u8 ((unm u').toNat : Int))) := ⟨(hA.out u' h4).1⟩
                have hcell2 := (hA.out u' h4).1
                have hd4 : decide ((u' : Int) < 4) = true := decide_eq_true (by omega)
                have hq0 : (0 : Int) ≤ (u' : Int) := by omega
                have hq1 : (u' : Int) < 4 := by omega
                have hq2 : (0 : Int) ≤ (j : Int) := by omega
                have hq3 : (j : Int) < (s.size : Int) := by omega
                by_cases hn : unm u' = bAt s j
                · have hueq : u' = ue := by rw [← hfu.out, findU_hit h4 hn]
                  have d4 : (((unm u').toNat : Int) != ((bAt s j).toNat : Int)) = false := by rw [hn]; simp
                  clear hn hfu
                  subst hueq
                  generalize unm u' = cu at *
                  go_wp2_with fail
                  go_quiet (fail)
                  go_wp2
                  go_meet
                  case rel => exact ⟨rfl, _, by first | rfl | rw [World.drewN_drewN]⟩
                · have hmiss := Aside0.mk (findU_miss h4 hn)
                  have d4 : (((unm u').toNat : Int) != ((bAt s j).toNat : Int)) = true := by
                    rw [bne_iff_ne]
                    intro h
                    exact hn (UInt8.toNat_inj.1 (by omega))
                  have hle : u' + 1 ≤ ue := by
                    have := findF_le (4 - (u' + 1)) (u' + 1) (bAt s j)
                    have h7 := hmiss.out
                    rw [hfu.out] at h7
                    unfold findU at h7
                    omega
                  clear hn
                  generalize unm u' = cu at *
                  go_wp2_with fail
                  go_quiet (fail)
                  go_wp2
                  go_roundw
                  case rel => exact ⟨u' + 1, by go_num, by omega, ⟨hmiss.out.symm.trans hfu.out⟩, _, by first | rfl | rw [World.drewN_drewN]⟩
                  case measure => simp [Go.RowKit.intOf]; omega
              · have hu4 : u' = 4 := by omega
                have hue4 : ue = 4 := by omega
                subst hu4
                subst hue4
                have hd4 : decide ((4 : Int) < 4) = false := by decide
                go_wp2_with fail
                go_quiet (fail)
                go_wp2
                go_meet
                case rel => exact ⟨rfl, _, by first | rfl | rw [World.drewN_drewN]⟩
          case rest =>
            obtain ⟨rfl, n, hwc⟩ := hcut
            subst hwc
            have hB2 : Below w.heap.size w (wX.drewN n) := pw_below_drewN hB n
            have hA2 : Aside0 (At4 g (wX.drewN n)) := ⟨fun k hk => hA.out k hk⟩
            have hg2 : g + 1 < (wX.drewN n).heap.size := hg
            generalize wX.drewN n = wY at *
            by_cases h4 : ue = 4
            · have hPF := hPA.out
              rw [if_pos h4] at hPF
              obtain rfl := hNone.out hPF.symm
              clear hPF hNone hRA hPA hueA hat
              subst h4
              go_wp2
              go_ret2
              exact ⟨rfl, hB2⟩
            · have hPF := hPA.out
              rw [if_neg h4] at hPF
              have hPB := Aside0.mk hPF
              clear hPF hPA hueA hNone
              have d5 : (((ue : Nat) : Int) == 4) = false := by rw [beq_eq_false_iff_ne]; omega
              have hz := usz_le ue
              have hmul : ((numAt s i1 j : Nat) : Int) * ((usz ue : Nat) : Int) = ((numAt s i1 j * usz ue : Nat) : Int) := by rw [Int.natCast_mul]
              have hp : numAt s i1 j * usz ue ≤ 86400000000000 := Nat.le_trans (Nat.mul_le_mul (Nat.le_of_lt hm.out) hz.2) (by decide)
              have hmlt := hm.out
              clear hm
              obtain ⟨p, hpp⟩ : ∃ p, numAt s i1 j * usz ue = p := ⟨_, rfl⟩
              rw [hpp] at hmul hp hPB
              clear hpp
              have hcell := Aside0.mk (fun (W : World) (hb : Below wY.heap.size wY W) => (hA2.out.below hg2 hb ue (by omega)).2)
              have hbelow := Aside0.mk (fun (W : World) (hb : Below wY.heap.size wY W) => hA2.out.below hg2 hb)
              generalize usz ue = z at *
              generalize numAt s i1 j = m at *
              go_wp2_with (go_at_call 59; refine (hat.out _).mono ?_; rintro e w2 ⟨rfl, hb2⟩; have hcl := hcell.out w2 hb2)
              have hsz2 := hb2.size
              have hyw := hB2.size
              go_roundw
              case rel => exact ⟨j + 1, ue + 1, t + p, by go_num, by go_num, by go_num, by omega, by omega, by omega, ⟨hbelow.out _ hb2⟩, hB2.trans (hb2.mono hyw), by omega, ⟨F', by omega, by rw [show decide (j + 1 = 0) = false by simp]; exact hPB.out⟩⟩
              case measure => simp [Go.RowKit.intOf]; omega
    · have hie : i = s.size := by omega
      subst hie
      obtain ⟨F, hF, hPF⟩ := hP.out
      obtain ⟨F', rfl⟩ : ∃ F', F = F' + 1 := ⟨F - 1, by omega⟩
      rw [List.drop_of_length_le (by rw [← size_len]; omega)] at hPF
      have hPS : psR s = some t := hPF.symm
      clear hPF hP hNone
      have hRR := hRA.out
      unfold psRes at hRR
      rw [hPS] at hRR
      clear hRA hPS
      by_cases h0 : s.size = 0
      · rw [if_pos h0] at hRR
        obtain rfl := hRR
        have hs0 : s = ⟨#[]⟩ := by
          apply ByteArray.ext
          exact Array.eq_empty_of_size_eq_zero h0
        subst hs0
        go_wp2
        go_ret2
        exact ⟨rfl, hB⟩
      · rw [if_neg h0] at hRR
        have hne : s.toList.isEmpty = false := by
          rw [ByteArray.toList_eq]
          cases h : s.data.toList with
          | nil => exfalso; rw [size_len, h] at h0; exact h0 rfl
          | cons a b => rfl
        have hne2 : (!s.toList.isEmpty) = true := by rw [hne]; rfl
        by_cases hbig : 1000000000 < t
        · simp only [if_pos hbig] at hRR
          obtain rfl := hRR
          have d6 : (1000000000 : Int) < (t : Int) := by omega
          go_wp2
          go_ret2
          exact ⟨rfl, hB⟩
        · simp only [if_neg hbig] at hRR
          obtain rfl := hRR
          have d6 : (t : Int) ≤ 1000000000 := by omega
          go_wp2
          go_ret2
          exact ⟨rfl, hB⟩
end Go.Proofs.YtallfkecjibpmaaDoor.G
