/- Of this claim's texts (MgM): the declarations that the claim reaches (slimclaim.py). -/
import Derived.Test.YtallfkecjibpmaaGreatDoorVY2
set_option linter.unusedVariables false
set_option linter.unusedSimpArgs false
namespace Go.Proofs.YtallfkecjibpmaaGreatDoor.G
open Go.RowKit Go.Proofs.YtallfkecjibpmaaGreatDoorW.PrintWords Go.Proofs.YtallfkecjibpmaaGreatDoorW.PrintMore Go.Proofs.YtallfkecjibpmaaGreatDoorW.PrintLast Go.Lib Go.Proofs.YtallfkecjibpmaaGreatDoor.R Go.Proofs.YtallfkecjibpmaaGreatDoor.M Go.Proofs.YtallfkecjibpmaaGreatDoor.Y
def motleyref27_Merge.f (k : Nat) (a0 a1 : ByteArray) : Option (ByteArray × Int) := (motleyref27_Read.f k a0).bind fun p => if p.2 = 0 then ((motleyref27_Read.f k a1).bind fun q => if q.2 = 0 then (if p.1.length ≤ 1000000 ∧ q.1.length ≤ 1000000 then (if 200 < p.1.length + q.1.length then some (⟨#[]⟩, 3) else (motleyref27_write.f k (p.1 ++ q.1)).bind fun s => some (s, 0)) else none) else some (⟨#[]⟩, q.2)) else some (⟨#[]⟩, p.2)
theorem below_of_grown {w w' : World} (h : w.grownBy w' none) : Below w.heap.size w w' := ⟨h.os, h.tape, h.output, h.size, fun k hk => h.block k hk (by simp)⟩
set_option maxHeartbeats 8000000 in
set_option maxRecDepth 100000 in
theorem motleyref27_Merge.calls (k : Nat) (a0 a1 : ByteArray) (r1 : ByteArray) (r2 : Int) (w : World) (h : motleyref27_Merge.f k a0 a1 = some (r1, r2)) :
    Calls Tryz.prog 13 #[.string a0, .string a1] w fun e w' => e = .returned (.tuple #[.string r1, .int .i64 r2]) ∧ Below w.heap.size w w' := by
  unfold motleyref27_Merge.f at h
  obtain ⟨⟨p1, p2⟩, hp, h⟩ := Option.bind_eq_some_iff.1 h
  have hA := Aside0.mk (fun W => motleyref27_Read.calls k a0 p1 p2 W hp)
  simp only at h
  by_cases h1 : p2 = 0
  · rw [if_pos h1] at h
    subst h1
    obtain ⟨⟨q1, q2⟩, hq, h⟩ := Option.bind_eq_some_iff.1 h
    have hB := Aside0.mk (fun W => motleyref27_Read.calls k a1 q1 q2 W hq)
    simp only at h
    by_cases h2 : q2 = 0
    · rw [if_pos h2] at h
      subst h2
      split at h
      case isFalse => cases h
      case isTrue hl =>
      clear hp hq
      by_cases h3 : 200 < p1.length + q1.length
      · rw [if_pos h3] at h
        simp only [Option.some.injEq, Prod.mk.injEq] at h
        obtain ⟨rfl, rfl⟩ := h
        obtain ⟨hl1, hl2⟩ := hl
        have hd : decide (200 < ((p1.length : Int) + (q1.length : Int))) = true := decide_eq_true (by omega)
        have hd2 : decide (200 < p1.length + q1.length) = true := decide_eq_true h3
        go_enter Tryz.func13, Tryz.ntmps13
        go_wp2_with (go_at_call 7; first | ((with_reducible refine (hA.out _).mono ?_); rintro e w1 ⟨v1, rfl, hR1, hb1⟩; obtain ⟨A1, c1, e1⟩ := Kd.R_slice hR1; subst e1; have hb1A := Aside0.mk hb1; clear hb1 hR1) | ((with_reducible refine (hB.out _).mono ?_); rintro e w2 ⟨v2, rfl, hR2, hb2⟩; obtain ⟨A2, c2, e2⟩ := Kd.R_slice hR2; subst e2; have hb2A := Aside0.mk hb2; clear hb2 hR2))
        go_ret2
        exact ⟨rfl, hb1A.out.trans (hb2A.out.mono hb1A.out.size)⟩
      · rw [if_neg h3] at h
        obtain ⟨s, hs, h⟩ := Option.bind_eq_some_iff.1 h
        simp only [Option.some.injEq, Prod.mk.injEq] at h
        obtain ⟨rfl, rfl⟩ := h
        obtain ⟨hl1, hl2⟩ := hl
        have hw := Aside0.mk (fun (A : Option Addr) (c n : Nat) (W : World) (hn : n = (p1 ++ q1).length) hr hc => hn ▸ motleyref27_write.calls k A c (p1 ++ q1) s W hr hc hs)
        have hlA := Aside0.mk (show p1.length + q1.length ≤ 200 by omega)
        have hd : decide (200 < ((p1.length : Int) + (q1.length : Int))) = false := decide_eq_false (by omega)
        have hd2 : decide (200 < p1.length + q1.length) = false := decide_eq_false h3
        clear hs
        go_enter Tryz.func13, Tryz.ntmps13
        go_wp2_with (first | (go_at_call 7; first | ((with_reducible refine (hA.out _).mono ?_); rintro e w1 ⟨v1, rfl, hR1, hb1⟩; obtain ⟨A1, c1, e1⟩ := Kd.R_slice hR1; subst e1; have hb1A := Aside0.mk hb1; have hR1A := Aside0.mk hR1; clear hb1 hR1) | ((with_reducible refine (hB.out _).mono ?_); rintro e w2 ⟨v2, rfl, hR2, hb2⟩; obtain ⟨A2, c2, e2⟩ := Kd.R_slice hR2; subst e2; have hb2A := Aside0.mk hb2; have hR2A := Aside0.mk hR2; have hR1B := Aside0.mk (Kd.R_below hR1A.out hb2); have hBB := Aside0.mk (hb1A.out.trans (hb2.mono hb1A.out.size)); have hsz := Aside0.mk hBB.out.size; clear hb2 hR2)) | (at_builtin; refine Kd.R_append_rows k53 (w0 := w) w.heap.size rfl (.const (.slice none 0 0)) (.tmp 31) 23 53 (.agg #[.bool false, .string ⟨#[]⟩, .int .i64 0, .string ⟨#[]⟩]) 48 rfl Tryz.underlying23 M.info53 rfl (by decide) (by omega) (.slice none 0 0) [] p1 _ _ _ (fun _ => True) (fun _ => False) rfl rfl (Kd.R_nil _ _ _ _ _) (Kd.R_reads' hR1B.out).2.2 (fun _ _ h => h) (fun _ h => h.elim) (fun _ _ => trivial) hBB.out hsz.out (by have := hlA.out; simp; omega) ?_; intro v3 w3 ho3 hb3 hg3 _; have ho3A := Aside0.mk ho3; have hb3A := Aside0.mk hb3; have hR2B := Aside0.mk (Kd.R_below hR2A.out (below_of_grown hg3)); have hsz3 := Aside0.mk hb3.size; clear ho3 hb3 hg3) | (at_builtin; refine Kd.R_append_rows k53 (w0 := w) w.heap.size rfl (.tmp 32) (.tmp 33) 23 53 (.agg #[.bool false, .string ⟨#[]⟩, .int .i64 0, .string ⟨#[]⟩]) 48 rfl Tryz.underlying23 M.info53 rfl (by decide) (by omega) v3 ([] ++ p1) q1 _ _ _ (fun _ => True) (fun _ => False) rfl rfl ho3A.out (Kd.R_reads' hR2B.out).2.2 (fun _ _ h => h) (fun _ h => h.elim) (fun _ _ => trivial) hb3A.out hsz3.out (by have := hlA.out; simp; omega) ?_; intro v4 w4 ho4 hb4 _ _; rw [List.nil_append] at ho4; have ho4A := Aside0.mk ho4; have hb4A := Aside0.mk hb4; obtain ⟨A4, c4, e4⟩ := Kd.R_slice ho4; subst e4; clear ho4 hb4) | (go_at_call 25; (with_reducible refine (hw.out A4 c4 _ _ (by rw [List.length_append]) (Kd.R_reads' ho4A.out).2.2 (by have := (Kd.R_reads' ho4A.out).2.1; simpa using this)).mono ?_); rintro e w5 ⟨rfl, hb5⟩; have hb5A := Aside0.mk hb5; clear hb5))
        go_ret2
        exact ⟨rfl, hb4A.out.trans (hb5A.out.mono hb4A.out.size)⟩
    · rw [if_neg h2] at h
      simp only [Option.some.injEq, Prod.mk.injEq] at h
      obtain ⟨rfl, rfl⟩ := h
      have hne : (q2 != 0) = true := by rw [bne_iff_ne]; exact h2
      clear hp hq h2
      go_enter Tryz.func13, Tryz.ntmps13
      go_wp2_with (go_at_call 7; first | ((with_reducible refine (hA.out _).mono ?_); rintro e w1 ⟨v1, rfl, hR1, hb1⟩; have hb1A := Aside0.mk hb1; clear hb1 hR1) | ((with_reducible refine (hB.out _).mono ?_); rintro e w2 ⟨v2, rfl, hR2, hb2⟩; have hb2A := Aside0.mk hb2; clear hb2 hR2))
      go_ret2
      exact ⟨rfl, hb1A.out.trans (hb2A.out.mono hb1A.out.size)⟩
  · rw [if_neg h1] at h
    simp only [Option.some.injEq, Prod.mk.injEq] at h
    obtain ⟨rfl, rfl⟩ := h
    have hne : (p2 != 0) = true := by rw [bne_iff_ne]; exact h1
    clear hp h1
    go_enter Tryz.func13, Tryz.ntmps13
    go_wp2_with (go_at_call 7; (with_reducible refine (hA.out _).mono ?_); rintro e w1 ⟨v1, rfl, hR1, hb1⟩; have hb1A := Aside0.mk hb1; clear hb1 hR1)
    go_ret2
    exact ⟨rfl, hb1A.out⟩
end Go.Proofs.YtallfkecjibpmaaGreatDoor.G
