/- CharsClasses: chars.Is, for the printer. -/
import Derived.Test.YtegapacamclipaaDoorSpans2
import Derived.Test.YtegapacamclipaaDoorC1
set_option linter.unusedVariables false
set_option linter.unusedSimpArgs false
namespace Go.Proofs.YtegapacamclipaaDoor.G
open Go.RowKit Go.Proofs.YtegapacamclipaaDoorW.PrintWords Go.Proofs.YtegapacamclipaaDoor.Cls Go.Proofs.YtegapacamclipaaDoor.C Go.Lib Go.Shelf
def encN (x : Nat × Nat) : List Value := [.int .i64 (x.1 : Int), .int .i64 (x.2 : Int)]
theorem is_pred (c : Int) (B : Nat) (w : World) (hB : B < w.heap.size) (hcell : w.cell? ⟨B, 0, none⟩ = some (.int .i64 c)) :
    PredBelow Tryd.prog 72 #[.pointer (some ⟨B, 0, none⟩)] (fun x : Nat × Nat => .agg (encN x).toArray) (fun x => decide ((x.1 : Int) ≤ c) && decide (c ≤ (x.2 : Int))) w := fun W x hb => by
  have hc : W.cell? ⟨B, 0, none⟩ = some (.int .i64 c) := (hb.cell (p := ⟨B, 0, none⟩) hB).trans hcell
  have hBW : B < W.heap.size := Nat.lt_of_lt_of_le hB hb.size
  have hne : B ≠ W.heap.size := by omega
  obtain ⟨x1, x2⟩ := x
  show Calls Tryd.prog 72 #[.agg #[.int .i64 (x1 : Int), .int .i64 (x2 : Int)], .pointer (some ⟨B, 0, none⟩)] W _
  by_cases h1 : (x1 : Int) ≤ c
  · have hd : decide ((x1 : Int) ≤ c) = true := decide_eq_true h1
    go_enter Tryd.func72, Tryd.ntmps72
    go_wp2
    all_goals (go_ret; exact ⟨by simp_all, hb.alloc hb.size _⟩)
  · have hd : decide ((x1 : Int) ≤ c) = false := decide_eq_false h1
    go_enter Tryd.func72, Tryd.ntmps72
    go_wp2
    all_goals (go_ret; exact ⟨by simp_all, hb.alloc hb.size _⟩)
theorem is_box {w w1 : World} {c : Int} {t : TypeId} (h : Below (w.alloc (.cells #[.int .i64 c] t)).heap.size (w.alloc (.cells #[.int .i64 c] t)) w1) : w1.cell? ⟨w.heap.size, 0, none⟩ = some (.int .i64 c) :=
  (h.cell (p := ⟨w.heap.size, 0, none⟩) (by simp)).trans (by simp)
theorem isChar_f (c : Int) : chars_isChar.f c = some (decide (0 ≤ c ∧ c ≤ 1114111 ∧ (c < 55296 ∨ 57343 < c))) := by
  unfold chars_isChar.f
  by_cases h1 : c ≥ 0
  · rw [if_pos h1]
    by_cases h2 : c ≤ 1114111
    · rw [if_pos h2]
      by_cases h3 : c < 55296
      · rw [if_pos h3, decide_eq_true (by omega)]
      · rw [if_neg h3]
        congr 1
        rw [decide_eq_decide]
        omega
    · rw [if_neg h2, decide_eq_false (by omega)]
  · rw [if_neg h1, decide_eq_false (by omega)]
set_option maxHeartbeats 4000000 in
set_option maxRecDepth 100000 in
theorem chars_Is.calls (c : Int) (s : ByteArray) (r1 : Bool) (r2 : Int) (w : World) (h : chars_Is.f c s = some (r1, r2)) :
    Calls Tryd.prog 41 #[.int .i64 c, .string s] w fun e w' => e = .returned (.tuple #[.bool r1, .int .i64 r2]) ∧ Below w.heap.size w w' := by
  have hp := parts_eq 0 s
  unfold chars_Is.f at h
  have hnil := fun (W : World) (a : Option Addr) (n c : Nat) => run_eql_slice_nil (P := Tryd.prog) W 45 49 a n c Tryd.underlying45
  cases hc : clsOf s.data.toList with
  | some cl =>
    rw [hc] at h hp
    simp only [Option.some.injEq] at h hp
    have hsp := Aside0.mk (fun W => spans_some _ s cl W hp (parts_bd cl).1 (parts_bd cl).2)
    have hl := (cls_len cl).2.2
    have hic := Aside0.mk (fun W => chars_isChar.calls c _ W (isChar_f c))
    have eg : ∀ args w, (callFunc 72 args).run Tryd.prog w = .ok (.enter 72 args) w := enters_of Tryd.func72 (by kernel_rfl) rfl
    have egA := Aside0.mk eg
    clear hp hc eg
    generalize clsL cl = L at *
    obtain ⟨b, hb⟩ : ∃ b : Bool, b = decide (0 ≤ c ∧ c ≤ 1114111 ∧ (c < 55296 ∨ 57343 < c)) := ⟨_, rfl⟩
    rw [← hb] at hic
    have hB0 := Aside0.mk ((Below.refl w.heap.size w).alloc (Nat.le_refl _) (.cells #[.int .i64 c] 3))
    have hlA := Aside0.mk hl
    cases b with
    | true =>
      rw [if_pos (of_decide_eq_true hb.symm)] at h
      simp only [Option.some.injEq, Prod.mk.injEq] at h
      obtain ⟨rfl, rfl⟩ := h
      clear hb hl
      have hcon := Aside0.mk (fun (W : World) (g cap : Nat) (hB : w.heap.size < W.heap.size) (hcell : W.cell? ⟨w.heap.size, 0, none⟩ = some (.int .i64 c)) (hg : g < W.heap.size) (hcells : ∀ i, i < L.length * 2 → W.cell? ⟨g, i, none⟩ = (flatP L)[i]?) =>
        AnyQ.slices_ContainsFunc Tryd.contSp 2 Tryd.isAgg49 Tryd.sizeOf49 encN (fun _ => rfl) (fun x : Nat × Nat => decide ((x.1 : Int) ≤ c) && decide (c ≤ (x.2 : Int))) 72 #[.pointer (some ⟨w.heap.size, 0, none⟩)] egA.out g 0 L.length cap L W (is_pred c w.heap.size W hB hcell) (Nat.le_refl _) (by have := hlA.out; omega) hg (fun j hj i v hi => by
          have hm := flat_at L j hj
          have e : L[j]! = L[j] := by simp [hj]
          rw [e] at hi
          match i, hi with
          | 0, hi => rw [hcells _ (by omega), show 0 + j * 2 + 0 = j * 2 by omega, hm.1]; exact hi
          | 1, hi => rw [hcells _ (by omega), show 0 + j * 2 + 1 = j * 2 + 1 by omega, hm.2]; exact hi
          | i + 2, hi => simp [encN] at hi))
      have hcon2 := Aside0.mk (fun (W : World) (g cap : Nat) hB hcell hg hcells => (show Calls Tryd.prog 71 _ _ _ from hcon.out W g cap hB hcell hg hcells))
      rw [List.take_length] at hcon2
      go_enter Tryd.func41, Tryd.ntmps41
      go_wp2_with (go_at_call 70; refine (hsp.out _).mono ?_; rintro e w1 ⟨v, rfl, hO, hB⟩; obtain ⟨g, cap, rfl, hgb, hgl, _, _, hcells, _⟩ := own_form hO hlA.out.1; have hcb := is_box hB)
      have hclA := Aside0.mk hcells
      have hBA := Aside0.mk hB
      have hglA := Aside0.mk hgl
      have hsz := Aside0.mk (show w.heap.size < w1.heap.size by have := hB.size; simp at this; omega)
      have hcbA := Aside0.mk hcb
      clear hcells hB hgl hO hgb
      go_wp2_with (first | (go_at_call 63; refine (hic.out _).mono ?_; rintro e w2 ⟨rfl, ⟨nd, rfl⟩⟩) | (go_at_call 71; refine (hcon2.out (w1.drewN nd) _ _ hsz.out hcbA.out hglA.out hclA.out).mono ?_; rintro e w2 ⟨rfl, hB2⟩))
      go_ret2
      exact ⟨rfl, (pw_below_drewN (hB0.out.trans (hBA.out.mono (B' := w.heap.size) (by simp))) nd).trans (hB2.mono (B' := w.heap.size) (Nat.le_of_lt hsz.out))⟩
    | false =>
      rw [if_neg (of_decide_eq_false hb.symm)] at h
      simp only [Option.some.injEq, Prod.mk.injEq] at h
      obtain ⟨rfl, rfl⟩ := h
      clear hb hl
      go_enter Tryd.func41, Tryd.ntmps41
      go_wp2_with (go_at_call 70; refine (hsp.out _).mono ?_; rintro e w1 ⟨v, rfl, hO, hB⟩; obtain ⟨g, cap, rfl, hgb, hgl, _, _, hcells, _⟩ := own_form hO hlA.out.1; have hcb := is_box hB)
      have hclA := Aside0.mk hcells
      have hBA := Aside0.mk hB
      have hglA := Aside0.mk hgl
      have hsz := Aside0.mk (show w.heap.size < w1.heap.size by have := hB.size; simp at this; omega)
      have hcbA := Aside0.mk hcb
      clear hcells hB hgl hO hgb
      go_wp2_with (go_at_call 63; refine (hic.out _).mono ?_; rintro e w2 ⟨rfl, ⟨nd, rfl⟩⟩)
      go_ret2
      exact ⟨rfl, pw_below_drewN (hB0.out.trans (hBA.out.mono (B' := w.heap.size) (by simp))) nd⟩
  | none =>
    rw [hc] at h hp
    simp only [Option.some.injEq, Prod.mk.injEq] at h hp
    obtain ⟨rfl, rfl⟩ := h
    have hsp := Aside0.mk (fun W => spans_none _ s W hp)
    have hB0 := Aside0.mk ((Below.refl w.heap.size w).alloc (Nat.le_refl _) (.cells #[.int .i64 c] 3))
    clear hp hc
    go_enter Tryd.func41, Tryd.ntmps41
    go_wp2_with (go_at_call 70; refine (hsp.out _).mono ?_; rintro e w1 ⟨rfl, hB⟩)
    go_ret2
    exact ⟨rfl, hB0.out.trans (hB.mono (by simp))⟩
end Go.Proofs.YtegapacamclipaaDoor.G
