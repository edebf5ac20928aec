/- Spans of seconds are written: walked by hand. -/
import Derived.Test.YtallfkecjibpmaaDoorSpan
import Derived.Deep.RegionHeld3
import Derived.Deep.AppendLies
import Derived.Laws.NewBlocks
set_option linter.unusedVariables false
set_option linter.unusedSimpArgs false
namespace Go.Proofs.YtallfkecjibpmaaDoor.G
open Go.RowKit Go.Proofs.YtallfkecjibpmaaDoorW.PrintWords Go.Proofs.YtallfkecjibpmaaDoor.Nm Go.Lib
def mkB (l : List UInt8) : ByteArray := ⟨l.toArray⟩
theorem ba_cat (a b : List UInt8) : (⟨a.toArray⟩ : ByteArray) ++ ⟨b.toArray⟩ = ⟨(a ++ b).toArray⟩ := by
  apply ByteArray.ext
  simp
theorem own_after {wo W1 W2 : World} {B e n : Nat} {v : Value} {xs : List Value} (h : wo.ownsRow B e 1 v n xs) (h1 : W1.heap = wo.heap) (hb : Below W1.heap.size W1 W2) : W2.ownsRow B e 1 v n xs :=
  pw_own_below (w := W1) (by unfold World.ownsRow at h ⊢; rw [h1]; exact h) hb
/-- A slice's own row is not the block of the names. -/
theorem not_own {w : World} {B n g : Nat} {v : Value} {xs : List Value} {cs : Array Value} (h : w.ownsRow B 9 1 v n xs) (hN : w.heap[g]? = some (.cells cs 73)) : some g ≠ v.ownBlock := by
  rcases h.2 with ⟨rfl, _⟩ | ⟨k, cap, cur, rfl, _, hgb, _⟩
  · simp [Value.ownBlock]
  · intro e
    obtain rfl : g = k := by simpa [Value.ownBlock] using e
    rw [hN] at hgb
    simp at hgb
theorem names_0 {W : World} {g : Nat} (h : W.heap[g]? = some (.cells namesA 73)) : W.cell? ⟨g, 0, none⟩ = some (.int .u8 100) := by simp only [World.cell?, h]; rfl
theorem names_1 {W : World} {g : Nat} (h : W.heap[g]? = some (.cells namesA 73)) : W.cell? ⟨g, 1, none⟩ = some (.int .u8 104) := by simp only [World.cell?, h]; rfl
theorem names_2 {W : World} {g : Nat} (h : W.heap[g]? = some (.cells namesA 73)) : W.cell? ⟨g, 2, none⟩ = some (.int .u8 109) := by simp only [World.cell?, h]; rfl
theorem names_3 {W : World} {g : Nat} (h : W.heap[g]? = some (.cells namesA 73)) : W.cell? ⟨g, 3, none⟩ = some (.int .u8 115) := by simp only [World.cell?, h]; rfl
theorem dec19 {u : Nat} (h : u ≤ 9223372036854775807) : (decDigits u).length ≤ 19 := Nm.dec_len 18 u (by omega)
theorem join_le : ∀ xs : List (List UInt8), (∀ x ∈ xs, x.length ≤ 20) → (join xs [32]).length ≤ 21 * xs.length
  | [], _ => by simp [join, List.intercalate]
  | [x], h => by have := h x (by simp); simp [join, List.intercalate]; omega
  | x :: y :: r, h => by
    have h1 := h x (by simp)
    have ih := join_le (y :: r) (fun z hz => h z (by simp [hz]))
    have e : join (x :: y :: r) [32] = x ++ [32] ++ join (y :: r) [32] := by simp [join, List.intercalate, List.intersperse]
    rw [e]
    simp only [List.length_append, List.length_cons, List.length_nil] at ih ⊢
    omega
theorem spL_len : ∀ (f j n : Nat), (spL f j n).length ≤ f
  | 0, j, n => by simp [spL]
  | f + 1, j, n => by
    have := spL_len f (j + 1) (n % usz j)
    unfold spL
    rw [List.length_append]
    split <;> simp <;> omega
theorem spL_mem : ∀ (f j n : Nat), n ≤ 1000000000 → ∀ x ∈ spL f j n, x.length ≤ 20
  | 0, j, n, hn, x, hx => by simp [spL] at hx
  | f + 1, j, n, hn, x, hx => by
    have hd : n / usz j ≤ n := Nat.div_le_self _ _
    have hm : n % usz j ≤ n := Nat.mod_le _ _
    unfold spL at hx
    rcases List.mem_append.1 hx with hx | hx
    · split at hx
      · rw [List.mem_singleton] at hx
        have := dec19 (show n / usz j ≤ 9223372036854775807 by omega)
        rw [hx, List.length_append, List.length_singleton]
        omega
      · cases hx
    · exact spL_mem f (j + 1) _ (by omega) x hx
/-- A number of seconds, written. -/
def spanOut (n : Nat) : ByteArray := if spL 4 0 n = [] then ⟨#[48, 115]⟩ else mkB (join (spL 4 0 n) [32])
theorem infoS : (Tryd.prog.info? 9).map (fun i => (i.zero, i.size, i.bytes)) = some (some (.string ⟨#[]⟩), 1, 16) := by kernel_rfl
theorem enc_unm (k : Nat) (hk : k < 4) : Utf8.encode ((unm k).toNat : Int) = ⟨#[unm k]⟩ := by
  have : k = 0 ∨ k = 1 ∨ k = 2 ∨ k = 3 := by omega
  rcases this with rfl | rfl | rfl | rfl <;> decide
theorem spL_skip (f k m : Nat) (h : ¬ 0 < m / usz k) : spL (f + 1) k m = spL f (k + 1) (m % usz k) := by rw [spL, if_neg h]; rfl
theorem spL_take (f k m : Nat) (h : 0 < m / usz k) : spL (f + 1) k m = (decDigits (m / usz k) ++ [unm k]) :: spL f (k + 1) (m % usz k) := by rw [spL, if_pos h]; rfl
theorem spL_zero (k m : Nat) : spL 0 k m = [] := rfl
theorem Itoa_any (m : Nat) (hm : m ≤ 9223372036854775807) (w : World) (hL : LaidW w) :
    Calls Tryd.prog 61 #[.int .i64 m] w fun e w' => e = .returned (.string (mkB (decDigits m))) ∧ Below w.heap.size w w' := by
  have := strconv_Itoa.calls (m : Int) (mkB (decDigits m)) w hL (by unfold strconv_Itoa.f; rw [if_pos (by omega), itoa_nonneg]; rfl)
  exact this
set_option maxHeartbeats 4000000 in
set_option maxRecDepth 100000 in
theorem Span_bad (n : Int) (w : World) (h : n < 0 ∨ 1000000000 < n) :
    Calls Tryd.prog 28 #[.int .i64 n] w fun e w' => e = .returned (.tuple #[.string ⟨#[]⟩, .int .i64 1]) ∧ Below w.heap.size w w' := by
  rcases h with h | h
  · have d1 : decide (n < 0) = true := decide_eq_true h
    go_enter Tryd.func28, Tryd.ntmps28
    go_wp2
    go_ret2
    exact ⟨rfl, Below.refl _ _⟩
  · have d1 : decide (n < 0) = false := decide_eq_false (by omega)
    have d2 : decide (1000000000 < n) = true := decide_eq_true h
    go_enter Tryd.func28, Tryd.ntmps28
    go_wp2
    go_ret2
    exact ⟨rfl, Below.refl _ _⟩
set_option maxHeartbeats 8000000 in
set_option maxRecDepth 100000 in
theorem Span_good (n : Nat) (w : World) (hL : LaidW w) (hn : n ≤ 1000000000) :
    Calls Tryd.prog 28 #[.int .i64 n] w fun e w' => e = .returned (.tuple #[.string (spanOut n), .int .i64 0]) ∧ Below w.heap.size w w' := by
  have hu := Tryd.underlying73
  have hv := Tryd.underlying74
  have hU := Aside0.mk units_any
  obtain ⟨i0, hi0, hz0, hz1, hz2⟩ := info_parts infoS
  obtain ⟨R, hR⟩ : ∃ R, spanOut n = R := ⟨_, rfl⟩
  rw [hR]
  have hRA := Aside0.mk hR
  clear hR
  have d1 : decide ((n : Int) < 0) = false := decide_eq_false (by omega)
  have d2 : decide (1000000000 < (n : Int)) = false := decide_eq_false (by omega)
  go_enter Tryd.func28, Tryd.ntmps28
  go_wp2_with (go_at_call 58; refine (hU.out _).mono ?_; rintro e w1 ⟨rfl, hb1⟩; unfold namesA sizesA)
  have hA0 := Aside0.mk (At4.new w1)
  unfold namesA sizesA at hA0
  have hB0 : Below w.heap.size w ((w1.alloc (.cells #[.int .u8 100, .int .u8 104, .int .u8 109, .int .u8 115] 73)).alloc (.cells #[.int .i64 86400, .int .i64 3600, .int .i64 60, .int .i64 1] 74)) := (hb1.alloc hb1.size _).alloc (by have := hb1.size; simp; omega) _
  --LOOP
  have hN0 : Aside0 (((w1.alloc (.cells #[.int .u8 100, .int .u8 104, .int .u8 109, .int .u8 115] 73)).alloc (.cells #[.int .i64 86400, .int .i64 3600, .int .i64 60, .int .i64 1] 74)).heap[w1.heap.size]? = some (.cells namesA 73)) := ⟨by rw [Lib.alloc_old _ _ _ (by simp)]; exact heap_alloc_new w1 _⟩
  obtain ⟨W, hW⟩ : ∃ W : World, W = ((w1.alloc (.cells #[.int .u8 100, .int .u8 104, .int .u8 109, .int .u8 115] 73)).alloc (.cells #[.int .i64 86400, .int .i64 3600, .int .i64 60, .int .i64 1] 74)) := ⟨_, rfl⟩
  rw [← hW] at hN0 hB0 ⊢
  have hgs : w1.heap.size < W.heap.size := by rw [hW]; simp; omega
  have hgw : w.heap.size ≤ w1.heap.size := hb1.size
  clear hW hb1 hA0
  generalize w1.heap.size = g at *
  go_loopw [0, 6, 21] (fun nv lv iv wr => ∃ (f k m : Nat) (acc : List ByteArray) (ov : Value), nv = .int .i64 m ∧ lv = ov ∧ iv = .int .i64 k ∧ f + k = 4 ∧ m ≤ 1000000000 ∧ acc.length ≤ k ∧ k ≤ 4 ∧ Aside0 (wr.ownsRow w.heap.size 9 1 ov acc.length (acc.map Value.string)) ∧ Aside0 (wr.heap[g]? = some (.cells namesA 73)) ∧ Below w.heap.size w wr ∧ g < wr.heap.size ∧ Aside0 (acc ++ (spL f k m).map mkB = (spL 4 0 n).map mkB)) (fun _ _ iv _ => 4 - (Go.RowKit.intOf iv).toNat)
  case atStart => exact ⟨4, 0, n, [], _, rfl, rfl, rfl, rfl, hn, by simp, by omega, ⟨World.ownsRow_nil _ _ _ _⟩, hN0, hB0, hgs, ⟨by simp⟩⟩
  case round =>
    obtain ⟨f, k, m, acc, u6, rfl, rfl, rfl, hfk, hm, hac, hk4, hO, hN, hB, hg, hP⟩ := hrel
    obtain ⟨wo, rfl⟩ : ∃ wo : World, wo = wr := ⟨_, rfl⟩
    by_cases hk : k < 4
    · obtain ⟨f', rfl⟩ : ∃ f', f = f' + 1 := ⟨f - 1, by omega⟩
      obtain ⟨q, hqe⟩ : ∃ q, m / usz k = q := ⟨_, rfl⟩
      obtain ⟨r, hre⟩ : ∃ r, m % usz k = r := ⟨_, rfl⟩
      have hqm : q ≤ m := by rw [← hqe]; exact Nat.div_le_self _ _
      have hrm : r ≤ m := by rw [← hre]; exact Nat.mod_le _ _
      have hT := Aside0.mk (show 0 < q → acc ++ [mkB (decDigits q ++ [unm k])] ++ (spL f' (k + 1) r).map mkB = (spL 4 0 n).map mkB from fun h => by
        rw [← hP.out, spL_take f' k m (by rw [hqe]; exact h), hqe, hre]; simp)
      have hF := Aside0.mk (show ¬ 0 < q → acc ++ (spL f' (k + 1) r).map mkB = (spL 4 0 n).map mkB from fun h => by
        rw [← hP.out, spL_skip f' k m (by rw [hqe]; exact h), hre])
      have hq := Aside0.mk hqe
      have hr := Aside0.mk hre
      clear hqe hre hP
      have hcase : k = 0 ∨ k = 1 ∨ k = 2 ∨ k = 3 := by omega
      rcases hcase with rfl | rfl | rfl | rfl
      · -- unit 0
        have hcl : wo.cell? ⟨g, 0, none⟩ = some (.int .u8 100) := by simp only [World.cell?, hN.out]; rfl
        have hidx : ∀ w, (Instr.index 74 (.agg #[.int .i64 86400, .int .i64 3600, .int .i64 60, .int .i64 1]) (.int .i64 0)).run Tryd.prog w = .ok (.int .i64 86400) w := fun _ => by kernel_rfl
        have henc : Utf8.encode 100 = ⟨#[100]⟩ := by decide
        have hqi : (m : Int) / 86400 = (q : Int) := by have h_ : m / 86400 = q := hq.out; omega
        have hri : (m : Int) % 86400 = (r : Int) := by have h_ : m % 86400 = r := hr.out; omega
        by_cases hq0 : 0 < q
        · have hS := Aside0.mk (show acc ++ [mkB (decDigits q ++ [100])] ++ (spL f' (0 + 1) r).map mkB = (spL 4 0 n).map mkB from hT.out hq0)
          have hit := Aside0.mk (fun (W : World) hW => Itoa_any q (by omega) W (hL.below hW))
          have hmz : (mkB (decDigits q)).size ≤ 19 := by have := dec19 (show q ≤ 9223372036854775807 by omega); simpa [mkB, ByteArray.size] using this
          have hcat : Aside0 (mkB (decDigits q) ++ ⟨#[100]⟩ = mkB (decDigits q ++ [100])) := ⟨by unfold mkB; rw [show (⟨#[100]⟩ : ByteArray) = ⟨[100].toArray⟩ from rfl]; exact ba_cat _ _⟩
          have hstr : mkB (decDigits q) ++ ⟨#[100]⟩ = mkB (decDigits q ++ [100]) := hcat.out
          clear hcat
          have hq1 : (0 : Int) < (q : Int) := by omega
          generalize decDigits q ++ [100] = st at *
          generalize mkB (decDigits q) = dg at *
          go_wp2_with fail
          have hne := Aside0.mk (not_own hO.out hN.out)
          have hbig : (9223372036854775807 < dg.size + 1) = False := eq_false (by omega)
          have hBd : Below w.heap.size w wo.drew := hB.trans (pw_below_drewN (Below.refl _ _) 1)
          have hi2 := Aside0.mk (hit.out wo.drew hBd)
          have hgd := Aside0.mk (show g < wo.drew.heap.size from hg)
          have hwd := Aside0.mk (hBd.size)
          have hlen2 := Aside0.mk (show acc.length + 1 ≤ maxLen ∧ (acc.length + 1) * 16 ≤ 140737488355328 from by unfold maxLen; omega)
          go_region_held3 (fun w' => w'.cell? ⟨g, 0, none⟩ = some (.int .u8 100)) (first | go_keep | exact (hb2.cell (p := ⟨g, 0, none⟩) hgd.out).trans hcl | exact hcl3) (first | (go_at_call 61; refine hi2.out.mono ?_; rintro e w2 ⟨rfl, hb2⟩; have hcl2 := (hb2.cell (p := ⟨g, 0, none⟩) hgd.out).trans hcl) | (refine step_append_lies _ (by rfl) _ _ _ (by rfl) w.heap.size 9 i0 _ 1 16 Tryd.underlying82 hi0 hz0 hz1 hz2 rfl (by omega) u6 acc.length (acc.map Value.string) (by rfl) ((own_after (W1 := wo.drew) hO.out rfl hb2).alloc _) ⟨w2.heap.size, 0, none⟩ 1 1 [.string (mkB st)] (by rfl) (by rfl) (World.news_of_block (cs := #[.string (mkB st)]) (t := 9) (fr := (0, 0)) (heap_alloc_new w2 _)) (by simp [Value.oneCell']) (by omega) hlen2.out.1 hlen2.out.2 (by have := hwd.out; have := hb2.size; simp; omega) (w2.heap.size + 1) (by simp) ?_; intro gg cap w3 hown3 hgrow hat hlt; have hsz2 := hb2.size; have hN2 : (w2.alloc (.cells #[.string (mkB st)] 9)).heap[g]? = some (.cells namesA 73) := (by rw [Lib.alloc_old _ _ _ (Nat.lt_of_lt_of_le hgd.out hsz2), hb2.block g hgd.out]; exact hN.out); have hN3 : Aside0 (w3.heap[g]? = some (.cells namesA 73)) := ⟨by rw [hgrow.block g (Array.getElem?_eq_some_iff.1 hN2).1 hne.out]; exact hN2⟩; have hcl3 := names_0 hN3.out))
          go_wp2
          have hO3 : Aside0 (w3.ownsRow w.heap.size 9 1 (.slice (some ⟨gg, 0, none⟩) (acc.length + 1) cap) (acc ++ [mkB st]).length ((acc ++ [mkB st]).map Value.string)) := ⟨by rw [List.length_append, List.map_append]; exact hown3⟩
          have hB3 : Aside0 (Below w.heap.size w w3) := ⟨((hBd.trans (hb2.mono hwd.out)).alloc (Nat.le_trans hwd.out hsz2) _).grown hgrow (by simp; exact Nat.le_succ_of_le (Nat.le_trans hwd.out hsz2)) (fun k hk => (hO.out.lt k hk).1)⟩
          have hg3 : g < w3.heap.size := (Array.getElem?_eq_some_iff.1 hN3.out).1
          clear hN2 hown3 hgrow hat
          go_roundw
          case rel => exact ⟨f', 1, r, acc ++ [mkB st], _, by first | rfl | rw [hri] | simp, rfl, by first | rfl | go_num | simp, by omega, by omega, by rw [List.length_append, List.length_singleton]; omega, by omega, hO3, hN3, hB3.out, hg3, hS⟩
          case measure => simp [Go.RowKit.intOf]
        · have hq1 : (q : Int) ≤ 0 := by omega
          have hS := Aside0.mk (hF.out hq0)
          obtain rfl : q = 0 := by omega
          go_wp2
          go_roundw
          case rel => exact ⟨f', 1, r, acc, _, by first | rfl | rw [hri] | simp, rfl, by first | rfl | go_num | simp, by omega, by omega, by omega, by omega, hO, hN, hB, hg, hS⟩
          case measure => simp [Go.RowKit.intOf]
      · -- unit 1
        have hcl : wo.cell? ⟨g, 1, none⟩ = some (.int .u8 104) := by simp only [World.cell?, hN.out]; rfl
        have hidx : ∀ w, (Instr.index 74 (.agg #[.int .i64 86400, .int .i64 3600, .int .i64 60, .int .i64 1]) (.int .i64 1)).run Tryd.prog w = .ok (.int .i64 3600) w := fun _ => by kernel_rfl
        have henc : Utf8.encode 104 = ⟨#[104]⟩ := by decide
        have hqi : (m : Int) / 3600 = (q : Int) := by have h_ : m / 3600 = q := hq.out; omega
        have hri : (m : Int) % 3600 = (r : Int) := by have h_ : m % 3600 = r := hr.out; omega
        by_cases hq0 : 0 < q
        · have hS := Aside0.mk (show acc ++ [mkB (decDigits q ++ [104])] ++ (spL f' (1 + 1) r).map mkB = (spL 4 0 n).map mkB from hT.out hq0)
          have hit := Aside0.mk (fun (W : World) hW => Itoa_any q (by omega) W (hL.below hW))
          have hmz : (mkB (decDigits q)).size ≤ 19 := by have := dec19 (show q ≤ 9223372036854775807 by omega); simpa [mkB, ByteArray.size] using this
          have hcat : Aside0 (mkB (decDigits q) ++ ⟨#[104]⟩ = mkB (decDigits q ++ [104])) := ⟨by unfold mkB; rw [show (⟨#[104]⟩ : ByteArray) = ⟨[104].toArray⟩ from rfl]; exact ba_cat _ _⟩
          have hstr : mkB (decDigits q) ++ ⟨#[104]⟩ = mkB (decDigits q ++ [104]) := hcat.out
          clear hcat
          have hq1 : (0 : Int) < (q : Int) := by omega
          generalize decDigits q ++ [104] = st at *
          generalize mkB (decDigits q) = dg at *
          go_wp2_with fail
          have hne := Aside0.mk (not_own hO.out hN.out)
          have hbig : (9223372036854775807 < dg.size + 1) = False := eq_false (by omega)
          have hBd : Below w.heap.size w wo.drew := hB.trans (pw_below_drewN (Below.refl _ _) 1)
          have hi2 := Aside0.mk (hit.out wo.drew hBd)
          have hgd := Aside0.mk (show g < wo.drew.heap.size from hg)
          have hwd := Aside0.mk (hBd.size)
          have hlen2 := Aside0.mk (show acc.length + 1 ≤ maxLen ∧ (acc.length + 1) * 16 ≤ 140737488355328 from by unfold maxLen; omega)
          go_region_held3 (fun w' => w'.cell? ⟨g, 1, none⟩ = some (.int .u8 104)) (first | go_keep | exact (hb2.cell (p := ⟨g, 1, none⟩) hgd.out).trans hcl | exact hcl3) (first | (go_at_call 61; refine hi2.out.mono ?_; rintro e w2 ⟨rfl, hb2⟩; have hcl2 := (hb2.cell (p := ⟨g, 1, none⟩) hgd.out).trans hcl) | (refine step_append_lies _ (by rfl) _ _ _ (by rfl) w.heap.size 9 i0 _ 1 16 Tryd.underlying82 hi0 hz0 hz1 hz2 rfl (by omega) u6 acc.length (acc.map Value.string) (by rfl) ((own_after (W1 := wo.drew) hO.out rfl hb2).alloc _) ⟨w2.heap.size, 0, none⟩ 1 1 [.string (mkB st)] (by rfl) (by rfl) (World.news_of_block (cs := #[.string (mkB st)]) (t := 9) (fr := (0, 0)) (heap_alloc_new w2 _)) (by simp [Value.oneCell']) (by omega) hlen2.out.1 hlen2.out.2 (by have := hwd.out; have := hb2.size; simp; omega) (w2.heap.size + 1) (by simp) ?_; intro gg cap w3 hown3 hgrow hat hlt; have hsz2 := hb2.size; have hN2 : (w2.alloc (.cells #[.string (mkB st)] 9)).heap[g]? = some (.cells namesA 73) := (by rw [Lib.alloc_old _ _ _ (Nat.lt_of_lt_of_le hgd.out hsz2), hb2.block g hgd.out]; exact hN.out); have hN3 : Aside0 (w3.heap[g]? = some (.cells namesA 73)) := ⟨by rw [hgrow.block g (Array.getElem?_eq_some_iff.1 hN2).1 hne.out]; exact hN2⟩; have hcl3 := names_1 hN3.out))
          go_wp2
          have hO3 : Aside0 (w3.ownsRow w.heap.size 9 1 (.slice (some ⟨gg, 0, none⟩) (acc.length + 1) cap) (acc ++ [mkB st]).length ((acc ++ [mkB st]).map Value.string)) := ⟨by rw [List.length_append, List.map_append]; exact hown3⟩
          have hB3 : Aside0 (Below w.heap.size w w3) := ⟨((hBd.trans (hb2.mono hwd.out)).alloc (Nat.le_trans hwd.out hsz2) _).grown hgrow (by simp; exact Nat.le_succ_of_le (Nat.le_trans hwd.out hsz2)) (fun k hk => (hO.out.lt k hk).1)⟩
          have hg3 : g < w3.heap.size := (Array.getElem?_eq_some_iff.1 hN3.out).1
          clear hN2 hown3 hgrow hat
          go_roundw
          case rel => exact ⟨f', 2, r, acc ++ [mkB st], _, by first | rfl | rw [hri] | simp, rfl, by first | rfl | go_num | simp, by omega, by omega, by rw [List.length_append, List.length_singleton]; omega, by omega, hO3, hN3, hB3.out, hg3, hS⟩
          case measure => simp [Go.RowKit.intOf]
        · have hq1 : (q : Int) ≤ 0 := by omega
          have hS := Aside0.mk (hF.out hq0)
          obtain rfl : q = 0 := by omega
          go_wp2
          go_roundw
          case rel => exact ⟨f', 2, r, acc, _, by first | rfl | rw [hri] | simp, rfl, by first | rfl | go_num | simp, by omega, by omega, by omega, by omega, hO, hN, hB, hg, hS⟩
          case measure => simp [Go.RowKit.intOf]
      · -- unit 2
        have hcl : wo.cell? ⟨g, 2, none⟩ = some (.int .u8 109) := by simp only [World.cell?, hN.out]; rfl
        have hidx : ∀ w, (Instr.index 74 (.agg #[.int .i64 86400, .int .i64 3600, .int .i64 60, .int .i64 1]) (.int .i64 2)).run Tryd.prog w = .ok (.int .i64 60) w := fun _ => by kernel_rfl
        have henc : Utf8.encode 109 = ⟨#[109]⟩ := by decide
        have hqi : (m : Int) / 60 = (q : Int) := by have h_ : m / 60 = q := hq.out; omega
        have hri : (m : Int) % 60 = (r : Int) := by have h_ : m % 60 = r := hr.out; omega
        by_cases hq0 : 0 < q
        · have hS := Aside0.mk (show acc ++ [mkB (decDigits q ++ [109])] ++ (spL f' (2 + 1) r).map mkB = (spL 4 0 n).map mkB from hT.out hq0)
          have hit := Aside0.mk (fun (W : World) hW => Itoa_any q (by omega) W (hL.below hW))
          have hmz : (mkB (decDigits q)).size ≤ 19 := by have := dec19 (show q ≤ 9223372036854775807 by omega); simpa [mkB, ByteArray.size] using this
          have hcat : Aside0 (mkB (decDigits q) ++ ⟨#[109]⟩ = mkB (decDigits q ++ [109])) := ⟨by unfold mkB; rw [show (⟨#[109]⟩ : ByteArray) = ⟨[109].toArray⟩ from rfl]; exact ba_cat _ _⟩
          have hstr : mkB (decDigits q) ++ ⟨#[109]⟩ = mkB (decDigits q ++ [109]) := hcat.out
          clear hcat
          have hq1 : (0 : Int) < (q : Int) := by omega
          generalize decDigits q ++ [109] = st at *
          generalize mkB (decDigits q) = dg at *
          go_wp2_with fail
          have hne := Aside0.mk (not_own hO.out hN.out)
          have hbig : (9223372036854775807 < dg.size + 1) = False := eq_false (by omega)
          have hBd : Below w.heap.size w wo.drew := hB.trans (pw_below_drewN (Below.refl _ _) 1)
          have hi2 := Aside0.mk (hit.out wo.drew hBd)
          have hgd := Aside0.mk (show g < wo.drew.heap.size from hg)
          have hwd := Aside0.mk (hBd.size)
          have hlen2 := Aside0.mk (show acc.length + 1 ≤ maxLen ∧ (acc.length + 1) * 16 ≤ 140737488355328 from by unfold maxLen; omega)
          go_region_held3 (fun w' => w'.cell? ⟨g, 2, none⟩ = some (.int .u8 109)) (first | go_keep | exact (hb2.cell (p := ⟨g, 2, none⟩) hgd.out).trans hcl | exact hcl3) (first | (go_at_call 61; refine hi2.out.mono ?_; rintro e w2 ⟨rfl, hb2⟩; have hcl2 := (hb2.cell (p := ⟨g, 2, none⟩) hgd.out).trans hcl) | (refine step_append_lies _ (by rfl) _ _ _ (by rfl) w.heap.size 9 i0 _ 1 16 Tryd.underlying82 hi0 hz0 hz1 hz2 rfl (by omega) u6 acc.length (acc.map Value.string) (by rfl) ((own_after (W1 := wo.drew) hO.out rfl hb2).alloc _) ⟨w2.heap.size, 0, none⟩ 1 1 [.string (mkB st)] (by rfl) (by rfl) (World.news_of_block (cs := #[.string (mkB st)]) (t := 9) (fr := (0, 0)) (heap_alloc_new w2 _)) (by simp [Value.oneCell']) (by omega) hlen2.out.1 hlen2.out.2 (by have := hwd.out; have := hb2.size; simp; omega) (w2.heap.size + 1) (by simp) ?_; intro gg cap w3 hown3 hgrow hat hlt; have hsz2 := hb2.size; have hN2 : (w2.alloc (.cells #[.string (mkB st)] 9)).heap[g]? = some (.cells namesA 73) := (by rw [Lib.alloc_old _ _ _ (Nat.lt_of_lt_of_le hgd.out hsz2), hb2.block g hgd.out]; exact hN.out); have hN3 : Aside0 (w3.heap[g]? = some (.cells namesA 73)) := ⟨by rw [hgrow.block g (Array.getElem?_eq_some_iff.1 hN2).1 hne.out]; exact hN2⟩; have hcl3 := names_2 hN3.out))
          go_wp2
          have hO3 : Aside0 (w3.ownsRow w.heap.size 9 1 (.slice (some ⟨gg, 0, none⟩) (acc.length + 1) cap) (acc ++ [mkB st]).length ((acc ++ [mkB st]).map Value.string)) := ⟨by rw [List.length_append, List.map_append]; exact hown3⟩
          have hB3 : Aside0 (Below w.heap.size w w3) := ⟨((hBd.trans (hb2.mono hwd.out)).alloc (Nat.le_trans hwd.out hsz2) _).grown hgrow (by simp; exact Nat.le_succ_of_le (Nat.le_trans hwd.out hsz2)) (fun k hk => (hO.out.lt k hk).1)⟩
          have hg3 : g < w3.heap.size := (Array.getElem?_eq_some_iff.1 hN3.out).1
          clear hN2 hown3 hgrow hat
          go_roundw
          case rel => exact ⟨f', 3, r, acc ++ [mkB st], _, by first | rfl | rw [hri] | simp, rfl, by first | rfl | go_num | simp, by omega, by omega, by rw [List.length_append, List.length_singleton]; omega, by omega, hO3, hN3, hB3.out, hg3, hS⟩
          case measure => simp [Go.RowKit.intOf]
        · have hq1 : (q : Int) ≤ 0 := by omega
          have hS := Aside0.mk (hF.out hq0)
          obtain rfl : q = 0 := by omega
          go_wp2
          go_roundw
          case rel => exact ⟨f', 3, r, acc, _, by first | rfl | rw [hri] | simp, rfl, by first | rfl | go_num | simp, by omega, by omega, by omega, by omega, hO, hN, hB, hg, hS⟩
          case measure => simp [Go.RowKit.intOf]
      · -- unit 3
        have hcl : wo.cell? ⟨g, 3, none⟩ = some (.int .u8 115) := by simp only [World.cell?, hN.out]; rfl
        have hidx : ∀ w, (Instr.index 74 (.agg #[.int .i64 86400, .int .i64 3600, .int .i64 60, .int .i64 1]) (.int .i64 3)).run Tryd.prog w = .ok (.int .i64 1) w := fun _ => by kernel_rfl
        have henc : Utf8.encode 115 = ⟨#[115]⟩ := by decide
        obtain rfl : m = q := by have h_ : m / 1 = q := hq.out; omega
        obtain rfl : r = 0 := by have h_ : m % 1 = r := hr.out; omega
        by_cases hq0 : 0 < m
        · have hS := Aside0.mk (show acc ++ [mkB (decDigits m ++ [115])] ++ (spL f' (3 + 1) 0).map mkB = (spL 4 0 n).map mkB from hT.out hq0)
          have hit := Aside0.mk (fun (W : World) hW => Itoa_any m (by omega) W (hL.below hW))
          have hmz : (mkB (decDigits m)).size ≤ 19 := by have := dec19 (show m ≤ 9223372036854775807 by omega); simpa [mkB, ByteArray.size] using this
          have hcat : Aside0 (mkB (decDigits m) ++ ⟨#[115]⟩ = mkB (decDigits m ++ [115])) := ⟨by unfold mkB; rw [show (⟨#[115]⟩ : ByteArray) = ⟨[115].toArray⟩ from rfl]; exact ba_cat _ _⟩
          have hstr : mkB (decDigits m) ++ ⟨#[115]⟩ = mkB (decDigits m ++ [115]) := hcat.out
          clear hcat
          have hq1 : (0 : Int) < (m : Int) := by omega
          generalize decDigits m ++ [115] = st at *
          generalize mkB (decDigits m) = dg at *
          go_wp2_with fail
          have hne := Aside0.mk (not_own hO.out hN.out)
          have hbig : (9223372036854775807 < dg.size + 1) = False := eq_false (by omega)
          have hBd : Below w.heap.size w wo.drew := hB.trans (pw_below_drewN (Below.refl _ _) 1)
          have hi2 := Aside0.mk (hit.out wo.drew hBd)
          have hgd := Aside0.mk (show g < wo.drew.heap.size from hg)
          have hwd := Aside0.mk (hBd.size)
          have hlen2 := Aside0.mk (show acc.length + 1 ≤ maxLen ∧ (acc.length + 1) * 16 ≤ 140737488355328 from by unfold maxLen; omega)
          go_region_held3 (fun w' => w'.cell? ⟨g, 3, none⟩ = some (.int .u8 115)) (first | go_keep | exact (hb2.cell (p := ⟨g, 3, none⟩) hgd.out).trans hcl | exact hcl3) (first | (go_at_call 61; refine hi2.out.mono ?_; rintro e w2 ⟨rfl, hb2⟩; have hcl2 := (hb2.cell (p := ⟨g, 3, none⟩) hgd.out).trans hcl) | (refine step_append_lies _ (by rfl) _ _ _ (by rfl) w.heap.size 9 i0 _ 1 16 Tryd.underlying82 hi0 hz0 hz1 hz2 rfl (by omega) u6 acc.length (acc.map Value.string) (by rfl) ((own_after (W1 := wo.drew) hO.out rfl hb2).alloc _) ⟨w2.heap.size, 0, none⟩ 1 1 [.string (mkB st)] (by rfl) (by rfl) (World.news_of_block (cs := #[.string (mkB st)]) (t := 9) (fr := (0, 0)) (heap_alloc_new w2 _)) (by simp [Value.oneCell']) (by omega) hlen2.out.1 hlen2.out.2 (by have := hwd.out; have := hb2.size; simp; omega) (w2.heap.size + 1) (by simp) ?_; intro gg cap w3 hown3 hgrow hat hlt; have hsz2 := hb2.size; have hN2 : (w2.alloc (.cells #[.string (mkB st)] 9)).heap[g]? = some (.cells namesA 73) := (by rw [Lib.alloc_old _ _ _ (Nat.lt_of_lt_of_le hgd.out hsz2), hb2.block g hgd.out]; exact hN.out); have hN3 : Aside0 (w3.heap[g]? = some (.cells namesA 73)) := ⟨by rw [hgrow.block g (Array.getElem?_eq_some_iff.1 hN2).1 hne.out]; exact hN2⟩; have hcl3 := names_3 hN3.out))
          go_wp2
          have hO3 : Aside0 (w3.ownsRow w.heap.size 9 1 (.slice (some ⟨gg, 0, none⟩) (acc.length + 1) cap) (acc ++ [mkB st]).length ((acc ++ [mkB st]).map Value.string)) := ⟨by rw [List.length_append, List.map_append]; exact hown3⟩
          have hB3 : Aside0 (Below w.heap.size w w3) := ⟨((hBd.trans (hb2.mono hwd.out)).alloc (Nat.le_trans hwd.out hsz2) _).grown hgrow (by simp; exact Nat.le_succ_of_le (Nat.le_trans hwd.out hsz2)) (fun k hk => (hO.out.lt k hk).1)⟩
          have hg3 : g < w3.heap.size := (Array.getElem?_eq_some_iff.1 hN3.out).1
          clear hN2 hown3 hgrow hat
          go_roundw
          case rel => exact ⟨f', 4, 0, acc ++ [mkB st], _, by first | rfl | rw [hri] | simp, rfl, by first | rfl | go_num | simp, by omega, by omega, by rw [List.length_append, List.length_singleton]; omega, by omega, hO3, hN3, hB3.out, hg3, hS⟩
          case measure => simp [Go.RowKit.intOf]
        · have hq1 : (m : Int) ≤ 0 := by omega
          have hS := Aside0.mk (hF.out hq0)
          obtain rfl : m = 0 := by omega
          go_wp2
          go_roundw
          case rel => exact ⟨f', 4, 0, acc, _, by first | rfl | rw [hri] | simp, rfl, by first | rfl | go_num | simp, by omega, by omega, by omega, by omega, hO, hN, hB, hg, hS⟩
          case measure => simp [Go.RowKit.intOf]
    · obtain rfl : k = 4 := by omega
      obtain rfl : f = 0 := by omega
      have hacc : acc = (spL 4 0 n).map mkB := by have := hP.out; rw [spL_zero, List.map_nil, List.append_nil] at this; exact this
      have hRR := hRA.out
      clear hRA hP
      unfold spanOut at hRR
      have haccA := Aside0.mk hacc
      clear hacc
      by_cases h0 : acc = []
      · subst h0
        have hnil : spL 4 0 n = [] := List.map_eq_nil_iff.1 haccA.out.symm
        rw [if_pos hnil] at hRR
        clear haccA hnil
        subst hRR
        rcases hO.out.2 with ⟨rfl, _⟩ | ⟨gb, cap, cur, rfl, _⟩
        all_goals
          clear hO
          go_wp2
          go_ret2
          exact ⟨rfl, hB⟩
      · have hne : spL 4 0 n ≠ [] := fun h => h0 (by rw [haccA.out, h]; rfl)
        rw [if_neg hne] at hRR
        have hmap : acc.map (·.data.toList) = spL 4 0 n := by
          rw [haccA.out, List.map_map]
          conv => rhs; rw [← List.map_id (spL 4 0 n)]
          apply List.map_congr_left
          intro x _
          simp [mkB]
        have hjoin : mkB (join (acc.map (·.data.toList)) [32]) = R := by rw [← hRR, hmap]
        have hjl : (join (acc.map (·.data.toList)) [32]).length ≤ 140737488355328 := by
          rw [hmap]
          have h1 := join_le (spL 4 0 n) (spL_mem 4 0 n hn)
          have h2 := spL_len 4 0 n
          omega
        clear hmap
        obtain ⟨gb, cap, rfl, hcap, hgb⟩ : ∃ gb cap, u6 = .slice (some ⟨gb, 0, none⟩) acc.length cap ∧ acc.length ≤ cap ∧ gb < wo.heap.size := by
          rcases hO.out.2 with ⟨rfl, h⟩ | ⟨gb, cap, cur, rfl, h1, h2, h3, _⟩
          · exact absurd (List.eq_nil_of_length_eq_zero h) h0
          · exact ⟨gb, cap, rfl, h3, (Array.getElem?_eq_some_iff.1 h2).1⟩
        have hj := Aside0.mk (Tryd.strings_Join gb 0 cap acc (⟨#[32]⟩ : ByteArray) wo (fun j x hx => by
          rw [Nat.zero_add]
          have hjl := (List.getElem?_eq_some_iff.1 hx).1
          rw [hO.out.cellAt j (by omega), List.getElem?_map, hx]
          rfl) hgb (by omega) hcap hjl)
        have hl0 : (((acc.length : Nat) : Int) == 0) = false := by
          rw [beq_eq_false_iff_ne]
          intro h
          exact h0 (List.eq_nil_of_length_eq_zero (by omega))
        have hjA := Aside0.mk hjoin
        clear hjl hjoin hRR hne hcap haccA hO
        generalize acc.length = an at *
        go_wp2_with (go_at_call 62; refine hj.out.mono ?_; rintro e w2 ⟨rfl, hb2⟩)
        go_ret2
        exact ⟨congrArg (fun x => Ending.returned (.tuple #[.string x, .int .i64 0])) hjA.out, hB.trans (hb2.mono hB.size)⟩
end Go.Proofs.YtallfkecjibpmaaDoor.G
