/- Of this claim's texts (RdA): the declarations that the claim reaches (slimclaim.py). -/
import Derived.Test.YtallfkecjibpmaaDoorVFieldsZ
import Derived.Test.YtallfkecjibpmaaDoorVRdN
set_option linter.unusedVariables false
set_option linter.unusedSimpArgs false
namespace Go.Proofs.YtallfkecjibpmaaDoor.G
open Go.RowKit Go.Proofs.YtallfkecjibpmaaDoorW.PrintWords Go.Proofs.YtallfkecjibpmaaDoor.Nm Go.Lib Go.Proofs.YtallfkecjibpmaaDoor.Rd
theorem toL_data (b : ByteArray) : b.toList = b.data.toList := ByteArray.toList_eq b
theorem numP_bad {d : List UInt8} (h : d = [] ∨ 9 < d.length ∨ (d.headD 0 = 48 ∧ d ≠ [48]) ∨ ¬ (d.all isDb = true)) : numP d = (0, false) := by unfold numP; rw [if_pos h]
theorem numP_good {d : List UInt8} (h : ¬ (d = [] ∨ 9 < d.length ∨ (d.headD 0 = 48 ∧ d ≠ [48]) ∨ ¬ (d.all isDb = true))) : numP d = ((val d : Int), true) := by unfold numP; rw [if_neg h]
theorem mkD_of (s : ByteArray) : mkD s.data.toList = s := by apply ByteArray.ext; simp [mkD]
theorem headD_bAt (s : ByteArray) : s.data.toList.headD 0 = bAt s 0 := by
  unfold bAt
  cases s.data.toList <;> rfl
theorem isDb_iff (c : UInt8) : isDb c = true ↔ (48 ≤ c.toNat ∧ c.toNat ≤ 57) := by unfold isDb isD; exact decide_eq_true_iff
set_option maxHeartbeats 8000000 in
set_option maxRecDepth 100000 in
theorem number_any (s : ByteArray) (w : World) :
    Calls Tryd.prog 125 #[.string s] w fun e w' => e = .returned (.tuple #[.int .i64 (numP s.data.toList).1, .bool (numP s.data.toList).2]) ∧ Below w.heap.size w w' := by
  obtain ⟨Q, hQ⟩ : ∃ Q : Ending → World → Prop, Q = fun e w' => e = .returned (.tuple #[.int .i64 (numP s.data.toList).1, .bool (numP s.data.toList).2]) ∧ Below w.heap.size w w' := ⟨_, rfl⟩
  rw [← hQ]
  have hbad : Aside0 ((s.data.toList = [] ∨ 9 < s.data.toList.length ∨ (s.data.toList.headD 0 = 48 ∧ s.data.toList ≠ [48]) ∨ ¬ (s.data.toList.all isDb = true)) → ∀ w', Below w.heap.size w w' → Q (.returned (.tuple #[.int .i64 0, .bool false])) w') := ⟨fun h w' hb => by
    rw [hQ]; exact ⟨by rw [numP_bad h], hb⟩⟩
  have hgood : Aside0 (¬ (s.data.toList = [] ∨ 9 < s.data.toList.length ∨ (s.data.toList.headD 0 = 48 ∧ s.data.toList ≠ [48]) ∨ ¬ (s.data.toList.all isDb = true)) → ∀ w', Below w.heap.size w w' → Q (.returned (.tuple #[.int .i64 (val s.data.toList : Int), .bool true])) w') := ⟨fun h w' hb => by
    rw [hQ]; exact ⟨by rw [numP_good h], hb⟩⟩
  clear hQ
  go_enter Tryd.func125, Tryd.ntmps125
  by_cases h0 : s.size = 0
  · have e0 : s.data.toList = [] := List.eq_nil_of_length_eq_zero (by rw [← size_len]; exact h0)
    have e2 : s.toList.isEmpty = true := by rw [toL_data, e0]; rfl
    have hb := Aside0.mk (hbad.out (.inl e0))
    clear e0 h0 hbad hgood
    go_wp2_with fail
    exact hb.out _ (Below.refl _ _)
  · have e2 : s.toList.isEmpty = false := by
      rw [toL_data]
      cases hc : s.data.toList with
      | nil => rw [size_len, hc] at h0; exact absurd rfl h0
      | cons c l => rfl
    have hne : Aside0 (s.data.toList ≠ []) := ⟨fun h => h0 (by rw [size_len, h]; rfl)⟩
    by_cases h9 : 9 < s.size
    · have e3 : decide ((9 : Int) < (s.size : Int)) = true := decide_eq_true (by omega)
      have hb := Aside0.mk (hbad.out (.inr (.inl (by rw [← size_len]; exact h9))))
      clear h9 h0 hbad hgood
      go_wp2_with fail
      exact hb.out _ (Below.refl _ _)
    · have e3 : decide ((9 : Int) < (s.size : Int)) = false := decide_eq_false (by omega)
      have hpos : 0 < s.size := by omega
      have hcs := at_bAt s 0 hpos
      have hhd := Aside0.mk (headD_bAt s)
      obtain ⟨c, hc⟩ : ∃ c, bAt s 0 = c := ⟨_, rfl⟩
      rw [hc] at hcs hhd
      have hc255 : ((c.toNat : Nat) : Int) < 256 := by have := c.toNat_lt; omega
      clear hc
      have hlead : (((c.toNat : Int)) == 48) = true ∧ (!(s.toList == [48])) = true ∧ Aside0 (s.data.toList.headD 0 = 48 ∧ s.data.toList ≠ [48]) ∨ ((((c.toNat : Int)) == 48) = false ∨ (((c.toNat : Int)) == 48) = true ∧ (!(s.toList == [48])) = false) ∧ Aside0 (¬ (s.data.toList.headD 0 = 48 ∧ s.data.toList ≠ [48])) := by
        have c48 : (48 : UInt8).toNat = 48 := rfl
        by_cases h1 : c = 48
        · by_cases h2 : s.data.toList = [48]
          · refine .inr ⟨.inr ⟨by rw [h1]; rfl, by rw [toL_data, h2]; rfl⟩, ⟨fun h => h.2 h2⟩⟩
          · refine .inl ⟨by rw [h1]; rfl, ?_, ⟨by rw [hhd.out, h1], h2⟩⟩
            rw [toL_data, beq_eq_false_iff_ne.2 h2]; rfl
        · refine .inr ⟨.inl ?_, ⟨fun h => h1 (by rw [← hhd.out]; exact h.1)⟩⟩
          rw [beq_eq_false_iff_ne]
          exact fun h => h1 (UInt8.toNat_inj.1 (by omega))
      have h9A := Aside0.mk h9
      have h9n : s.size ≤ 9 := by omega
      clear h9 h0
      rcases hlead with ⟨l1, l2, hl⟩ | ⟨hl2, hl⟩
      · have hb := Aside0.mk (hbad.out (.inr (.inr (.inl hl.out))))
        clear hbad hgood
        go_wp2_with fail
        exact hb.out _ (Below.refl _ _)
      · rcases hl2 with l1 | ⟨l1, l2⟩
        all_goals
          go_wp2_with fail
          go_loopw [25] (fun iv wr => ∃ (i : Nat), iv = .int .i64 i ∧ i ≤ s.size ∧ Aside0 (∀ x ∈ s.data.toList.take i, isDb x = true) ∧ Aside0 (wr = w)) (fun iv _ => s.size - (Go.RowKit.intOf iv).toNat)
          case atStart => exact ⟨0, rfl, by omega, ⟨by simp⟩, ⟨rfl⟩⟩
          case round =>
            obtain ⟨i, rfl, hi, hds, hwr⟩ := hrel
            by_cases hlt : i < s.size
            · have hsd := Aside0.mk (drop_bAt s i hlt)
              have hci := at_bAt s i hlt
              have hmem : Aside0 (bAt s i ∈ s.data.toList) := ⟨List.mem_of_mem_drop (i := i) (by rw [hsd.out]; exact List.mem_cons_self)⟩
              have htk : Aside0 (s.data.toList.take (i + 1) = s.data.toList.take i ++ [bAt s i]) := ⟨by
                rw [List.take_succ_eq_append_getElem (by rw [← size_len]; exact hlt)]
                congr 2
                unfold bAt
                rw [List.getD_eq_getElem?_getD, List.getElem?_eq_getElem (by rw [← size_len]; exact hlt)]; rfl⟩
              obtain ⟨x, hx⟩ : ∃ x, bAt s i = x := ⟨_, rfl⟩
              rw [hx] at hci hmem htk
              have hiff := Aside0.mk (isDb_iff x)
              have hx255 : ((x.toNat : Nat) : Int) < 256 := by have := x.toNat_lt; omega
              clear hx
              have hx3 : ((x.toNat : Int) < 48) ∨ (48 ≤ (x.toNat : Int) ∧ (x.toNat : Int) ≤ 57) ∨ (57 < (x.toNat : Int)) := by omega
              rcases hx3 with h3 | ⟨h3, h4⟩ | h3
              · have hb := Aside0.mk (hbad.out (.inr (.inr (.inr (fun h => by
                  have := hiff.out.1 (List.all_eq_true.1 h x hmem.out)
                  omega)))))
                clear hbad hgood
                go_wp2_with fail
                exact hb.out _ (by rw [hwr.out]; exact Below.refl _ _)
              · have hxd : Aside0 (isDb x = true) := ⟨hiff.out.2 (by omega)⟩
                go_wp2_with fail
                go_roundw
                case rel =>
                  refine ⟨i + 1, by go_num, by omega, ⟨fun y hy => ?_⟩, hwr⟩
                  rw [htk.out] at hy
                  rcases List.mem_append.1 hy with hy | hy
                  · exact hds.out y hy
                  · rw [List.mem_singleton.1 hy]; exact hxd.out
                case measure => simp [Go.RowKit.intOf]; omega
              · have hb := Aside0.mk (hbad.out (.inr (.inr (.inr (fun h => by
                  have := hiff.out.1 (List.all_eq_true.1 h x hmem.out)
                  omega)))))
                clear hbad hgood
                go_wp2_with fail
                exact hb.out _ (by rw [hwr.out]; exact Below.refl _ _)
            · have hie : i = s.size := by omega
              have hall : Aside0 (∀ x ∈ s.data.toList, isDb x = true) := ⟨fun x hx => hds.out x (by rw [List.take_of_length_le (by rw [← size_len]; omega)]; exact hx)⟩
              have hg := Aside0.mk (hgood.out (fun h => by
                rcases h with h | h | h | h
                · exact hne.out h
                · exact h9A.out (by rw [size_len]; exact h)
                · exact hl.out h
                · exact h (List.all_eq_true.2 hall.out)))
              have hat : Aside0 (∀ W : World, Calls Tryd.prog 59 #[.string s] W fun e w' => e = .returned (.tuple #[.int .i64 (val s.data.toList : Int), .nilIface]) ∧ Below W.heap.size W w') := ⟨fun W => by
                have := atoi_l s.data.toList (List.length_pos_iff.2 hne.out) (by rw [← size_len]; have := h9A.out; omega) (fun c hc => of_decide_eq_true (hall.out c hc)) W
                rwa [mkD_of] at this⟩
              clear hbad hgood hds
              go_wp2_with (go_at_call 59; refine (hat.out _).mono ?_; rintro e w1 ⟨rfl, hb1⟩)
              exact hg.out _ (by have := hb1; rw [hwr.out] at this; exact this)
end Go.Proofs.YtallfkecjibpmaaDoor.G
