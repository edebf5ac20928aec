/- chars.Unescape: walked by hand. -/
import Derived.Test.YtegapacamclipaaGreatDoorK1
import Derived.Test.YtegapacamclipaaGreatDoorEsc
set_option linter.unusedVariables false
set_option linter.unusedSimpArgs false
namespace Go.Proofs.YtegapacamclipaaGreatDoor.G
open Go.RowKit Go.Proofs.YtegapacamclipaaGreatDoorW.PrintWords Go.Proofs.YtegapacamclipaaGreatDoor.Tx Go.Lib
theorem cut_to_max {P : Program} (t e : TypeId) (kh : IntKind) {i : TypeInfo} (ht : P.underlying t = some (.slice e)) (hi : P.info? e = some i) (A : Option Addr) (n c : Nat) (j : Int) (h0 : 0 ≤ j) (hm : j ≤ n) (hc : n ≤ c) :
    ∀ W : World, (Instr.slice t (.slice A n c) none (some (.int kh j)) (some (.int kh j))).run P W = .ok (.slice A j.toNat j.toNat) W := by
  intro W
  have hel : P.elem t = e := by simp [Program.elem, ht]
  have hu : P.underlying t = some (.slice (P.elem t)) := by rw [hel]; exact ht
  have ha : (A.map fun x => x.add 0) = A := by cases A <;> simp [Addr.add]
  rw [run_slice_hm W t A n c hu kh kh j j h0 (by omega) (by omega), hel]
  simp [sizeOf, typeInfo, hi, sliced, Result.andThen, ha]
/-- The text of which a list of bytes is escaped; what stands is acc. -/
def unF : Nat → List UInt8 → List UInt8 → Option (List UInt8)
  | 0, _, _ => none
  | k + 1, l, acc =>
    if (Lib.cut l [92]).2.2 = false then some (acc ++ (Lib.cut l [92]).1)
    else if Lib.hasPrefix (Lib.cut l [92]).2.1 [92] = true then unF k ((Lib.cut l [92]).2.1.drop 1) (acc ++ (Lib.cut l [92]).1 ++ [92])
    else if (hexR (Lib.cut l [92]).2.1).2 = 0 then none
    else unF k ((Lib.cut l [92]).2.1.drop (hexR (Lib.cut l [92]).2.1).2.toNat) (acc ++ (Lib.cut l [92]).1 ++ encodeRune (hexR (Lib.cut l [92]).2.1).1)
def askI (s : ByteArray) : Int := if (s.size : Int) > 4096 then 3 else if (valid s.data.toList : Int) = (s.size : Int) then 0 else 2
theorem asked_one (s : ByteArray) (hs : s.size ≤ 140737488351232) : K.chars_asked.f 3 [s] = some (askI s) := by
  unfold K.chars_asked.f
  simp only [K.chars_asked.l0]
  rw [if_pos (by simp), if_pos (by omega), if_pos (by simp)]
  have e : rdOf ByteArray.empty [s] 0 = s := rfl
  rw [e]
  unfold askI
  by_cases h : (s.size : Int) > 4096
  · rw [if_pos h, if_pos h]
  · rw [if_neg h, if_neg h]
    unfold chars_Valid.f
    rw [if_pos hs]
    simp only [Option.bind_some, decide_eq_true_eq]
    by_cases h2 : (valid s.data.toList : Int) = (s.size : Int)
    · rw [if_pos h2, if_pos h2, if_neg (by simp [wrap64])]
    · rw [if_neg h2, if_neg h2]
theorem C_one (w : World) (g : Nat) (s : ByteArray) (h : w.cell? ⟨g, 0, none⟩ = some (.string s)) : Kd.C Kd.string w (some ⟨g, 0, none⟩) [s].length [s] := by
  refine ⟨rfl, by simp, fun _ => ⟨_, rfl, fun j p hj => ?_⟩⟩
  cases j with
  | zero =>
    simp at hj; subst hj
    refine ⟨[.string s], rfl, rfl, fun i u hu => ?_⟩
    cases i with
    | zero => simp at hu; subst hu; simpa [Addr.add] using h
    | succ i => simp at hu
  | succ j => simp at hj
theorem ask_one (s : ByteArray) (w : World) (hL : LaidW w) (hs : s.size ≤ 140737488351232) :
    Calls Tryz.prog 19 #[.slice (some ⟨w.heap.size, 0, none⟩) 1 1] (w.alloc (.cells #[.string s] 9)) fun e w' => e = .returned (.int .i64 (askI s)) ∧ Below w.heap.size w w' := by
  have hb := (Below.refl w.heap.size w).alloc (Nat.le_refl _) (.cells #[.string s] 9)
  refine (K.chars_asked.calls 3 (some ⟨w.heap.size, 0, none⟩) 1 [s] _ (w.alloc (.cells #[.string s] 9)) (hL.below hb) (C_one _ _ _ (by simp)) (by simp) (asked_one s hs)).mono fun e w' ⟨h1, h2⟩ => ⟨h1, hb.trans (h2.mono (by simp))⟩
theorem cut_more (l : List UInt8) : (Lib.cut l [92]).2.2 = true → (Lib.cut l [92]).1.length + 1 + (Lib.cut l [92]).2.1.length = l.length := by
  intro h
  unfold Lib.cut at h ⊢
  have hr := Lib.index_room l [92]
  split at h
  · rename_i h0
    rw [if_pos h0]
    have h1 := hr h0
    simp only [List.length_take, List.length_drop, List.length_cons, List.length_nil] at h1 ⊢
    omega
  · cases h
theorem cut_more2 (l : List UInt8) : (Lib.cut l [125]).2.2 = true → (Lib.cut l [125]).1.length + 1 + (Lib.cut l [125]).2.1.length = l.length := by
  intro h
  unfold Lib.cut at h ⊢
  have hr := Lib.index_room l [125]
  split at h
  · rename_i h0
    rw [if_pos h0]
    have h1 := hr h0
    simp only [List.length_take, List.length_drop, List.length_cons, List.length_nil] at h1 ⊢
    omega
  · cases h
theorem hexR_n (l : List UInt8) : (hexR l).2 = 0 ∨ (4 ≤ (hexR l).2 ∧ (hexR l).2 ≤ (l.length : Int) ∧ chr (hexR l).1) := by
  unfold hexR hexRes
  split
  · rename_i h
    obtain ⟨h1, h2, h3, h4, h5, h6⟩ := h
    refine .inr ⟨by simp only; omega, ?_, h6⟩
    have hc := cut_more2 (Lib.trimPrefix l [120, 123]) h2
    have ht : (Lib.trimPrefix l [120, 123]).length + 2 = l.length := by
      unfold Lib.trimPrefix at *
      rw [if_pos h1] at *
      unfold Lib.hasPrefix at h1
      have := (List.isPrefixOf_iff_prefix.1 h1).length_le
      simp at this ⊢
      omega
    simp only
    omega
  · exact .inl rfl
theorem ext_dropB (l : List UInt8) (n : Nat) : (mkB l).extract n (mkB l).size = mkB (l.drop n) := by
  apply ByteArray.ext
  apply Array.toList_inj.1
  rw [Lib.extract_data, mkB_list, mkB_list, mkB_size, List.take_of_length_le (by rw [List.length_drop]; exact Nat.le_refl _)]
def sizeU : Option (List UInt8) → ByteArray × Int
  | some o => if 4096 < o.length then (⟨#[]⟩, 3) else (mkB o, 0)
  | none => (⟨#[]⟩, 2)
theorem ext_dropL (l : List UInt8) (n : Nat) : (mkB l).extract n l.length = mkB (l.drop n) := by
  have := ext_dropB l n
  rw [mkB_size] at this
  exact this
theorem pre_one (l : List UInt8) (h : Lib.hasPrefix l [92] = true) : 1 ≤ l.length := by
  unfold Lib.hasPrefix at h
  have := (List.isPrefixOf_iff_prefix.1 h).length_le
  simpa using this
theorem isB_app {B : Nat} {acc bef : List UInt8} {W : World} (h : AtB B B (.pointer (some ⟨B, 0, none⟩)) (byteCells acc ++ Lib.strCells (mkB bef)) W) : IsB B B (byteCells (acc ++ bef)) W := by
  rw [byteCells_append]
  have h2 := h
  rw [show mkB bef = ⟨bef.toArray⟩ from rfl, strCells_eq] at h2
  exact Or.inr h2
/-- What Unescape hands back. -/
def unR (s : ByteArray) : ByteArray × Int := if askI s = 0 then sizeU (unF (s.size + 1) s.data.toList []) else (⟨#[]⟩, askI s)
theorem sized_any (o : List UInt8) (w : World) : Calls Tryz.prog 20 #[.string (mkB o)] w fun e w' => e = .returned (.tuple #[.string (sizeU (some o)).1, .int .i64 (sizeU (some o)).2]) ∧ Drawn0 w w' := by
  refine K.chars_sized.calls (mkB o) _ _ w ?_
  unfold K.chars_sized.f
  rw [mkB_size]
  simp only [sizeU]
  by_cases h : 4096 < o.length
  · simp only [if_pos h, if_pos (show (o.length : Int) > 4096 by omega)]
  · simp only [if_neg h, if_neg (show ¬ (o.length : Int) > 4096 by omega)]
theorem cut_none (l : List UInt8) (h : (Lib.cut l [92]).2.2 = false) : (Lib.cut l [92]).1 = l := by
  unfold Lib.cut at h ⊢
  split at h
  · cases h
  · rename_i h0
    rw [if_neg h0]
set_option maxHeartbeats 8000000 in
set_option maxRecDepth 100000 in
theorem unesc_any (s : ByteArray) (w : World) (hL : LaidW w) (hs : s.size ≤ 140737488351232) :
    Calls Tryz.prog 8 #[.string s] w fun e w' => e = .returned (.tuple #[.string (unR s).1, .int .i64 (unR s).2]) ∧ Below w.heap.size w w' := by
  have hask := Aside0.mk (ask_one s w hL hs)
  by_cases ha : askI s = 0
  · have h4 : s.size ≤ 4096 := by unfold askI at ha; split at ha <;> omega
    have hun : unR s = sizeU (unF (s.size + 1) s.data.toList []) := by unfold unR; rw [if_pos ha]
    rw [hun]
    rw [ha] at hask
    have hR0 := Aside0.mk (Eq.refl (unF (s.size + 1) s.data.toList []))
    generalize hR : unF (s.size + 1) s.data.toList [] = R at hR0 ⊢
    obtain ⟨Q, hQ⟩ : ∃ Q : Ending → World → Prop, Q = fun e w' => e = .returned (.tuple #[.string (sizeU R).1, .int .i64 (sizeU R).2]) ∧ Below w.heap.size w w' := ⟨_, rfl⟩
    rw [← hQ]
    have hQN : Aside0 (R = none → ∀ w', Below w.heap.size w w' → Q (.returned (.tuple #[.string ⟨#[]⟩, .int .i64 2])) w') := ⟨fun h w' hb => by subst h; rw [hQ]; exact ⟨rfl, hb⟩⟩
    have hQS : Aside0 (∀ o, R = some o → ∀ w', Below w.heap.size w w' → Q (.returned (.tuple #[.string (sizeU (some o)).1, .int .i64 (sizeU (some o)).2])) w') := ⟨fun o h w' hb => by subst h; rw [hQ]; exact ⟨rfl, hb⟩⟩
    have hRA := Aside0.mk hR
    have hLA := Aside0.mk hL
    have h4A := Aside0.mk h4
    have hsz := Aside0.mk (size_len s)
    have hsm := Aside0.mk (show s = mkB s.data.toList from rfl)
    clear hQ hR hun ha hL hs h4 hR0
    go_enter Tryz.func8, Tryz.ntmps8
    go_wp2_with (go_at_call 19; refine hask.out.mono ?_; rintro e w1 ⟨rfl, hB0⟩)
    have hB1 := Aside0.mk hB0
    clear hB0
    go_loopw [0] (fun sv wr => ∃ (l acc : List UInt8) (k : Nat), sv = .string (mkB l) ∧ acc.length + l.length ≤ 4096 ∧ l.length < k ∧ Aside0 (unF k l acc = R) ∧ Aside0 (IsB w1.heap.size w1.heap.size (byteCells acc) wr) ∧ Aside0 (w1.heap.size < wr.heap.size) ∧ Aside0 (Below w1.heap.size w1 wr)) (fun sv _ => (match sv with | .string b => b.size | _ => 0))
    case atStart =>
      refine ⟨s.data.toList, [], s.size + 1, rfl, by have h1 := h4A.out; have h2 := hsz.out; simp; omega, by have h2 := hsz.out; omega, hRA, ⟨IsBuilderF.of (fresh_isBuilder 40 5 w1)⟩, ⟨by simp⟩, ⟨(Below.refl _ w1).alloc (Nat.le_refl _) _⟩⟩
    case round =>
      obtain ⟨l, acc, k, rfl, hal, hk, hu, hI, hlt, hB⟩ := hrel
      obtain ⟨wq, rfl⟩ : ∃ wq : World, wq = wr := ⟨_, rfl⟩
      obtain ⟨k, rfl⟩ : ∃ k1, k = k1 + 1 := ⟨k - 1, by omega⟩
      have hBw := Aside0.mk (hB1.out.trans (hB.out.mono hB1.out.size))
      have hLr := Aside0.mk (hLA.out.below hBw.out)
      have hcut : Aside0 (Calls Tryz.prog 24 #[.string (mkB l), .string ⟨#[92]⟩] wq fun e w' => e = .returned (.tuple #[.string (mkB (Lib.cut l [92]).1), .string (mkB (Lib.cut l [92]).2.1), .bool (Lib.cut l [92]).2.2]) ∧ ∃ n, w' = wq.drewN n) := ⟨by
        obtain ⟨m, hm⟩ := hLr.out.max
        have := Tryz.strings_Cut (mkB l) ⟨#[92]⟩ m wq (by rw [mkB_size]; omega) hm
        rw [mkB_list] at this
        exact this⟩
      have hml := cut_more l
      have hbl := cut_none l
      have hcl := cut_len l [92]
      have hu2 := hu.out
      rw [unF] at hu2
      generalize Lib.cut l [92] = ct at *
      obtain ⟨bef, rest, more⟩ := ct
      simp only at hml hbl hcl hu2 hcut
      have hws := Aside0.mk (fun n => writeString_any w1.heap.size w1.heap.size (byteCells acc) (mkB bef) (wq.drewN n) (isB_below hI.out (pw_below_drewN (Below.refl _ _) n)) (by rw [byteCells_length, mkB_size]; omega) (Nat.le_of_lt hlt.out))
      cases more with
      | false =>
        rw [if_pos rfl] at hu2
        have hfin := Aside0.mk hu2.symm
        have hl2 := Aside0.mk (show (acc ++ bef).length ≤ 4096 by rw [hbl rfl, List.length_append]; omega)
        clear hu2 hml hbl hcl hal hk
        go_wp2_with (first | (go_at_call 24; refine hcut.out.mono ?_; rintro e w2 ⟨rfl, n, rfl⟩) | (go_at_call 25; refine (hws.out n).mono ?_; rintro e w3 ⟨rfl, h1b, hb1, hk1⟩; have hI2 := Aside0.mk (isB_app h1b); clear h1b hk1; have hsz3 := Aside0.mk hb1.size; have hst := Aside0.mk (Tryz.Builder_String_any_k w1.heap.size w1.heap.size (acc ++ bef) w3 hI2.out (Nat.le_of_lt (Nat.lt_of_lt_of_le hlt.out hsz3.out)))) | (go_at_call 26; refine hst.out.mono ?_; rintro e w4 ⟨rfl, _, b1, _⟩) | (go_at_call 20; refine (sized_any (acc ++ bef) _).mono ?_; rintro e w5 ⟨rfl, ⟨nd, rfl⟩⟩))
        exact hQS.out _ hfin.out _ (pw_below_drewN ((pw_below_drewN hBw.out n).trans ((hb1.trans b1).mono hB1.out.size)) nd)
      | true =>
        rw [if_neg (by decide)] at hu2
        have hml2 := hml rfl
        have hle := Aside0.mk (show acc.length + bef.length + 1 + rest.length ≤ 4096 ∧ rest.length < k ∧ rest.length + 1 ≤ l.length from ⟨by omega, by omega, by omega⟩)
        have hzr := Aside0.mk (mkB_size rest)
        have hhp := Aside0.mk (fun W => Tryz.strings_HasPrefix (mkB rest) ⟨#[92]⟩ W)
        have hhx := Aside0.mk (fun W h => hex_any (mkB rest) W h (by rw [mkB_size]; omega))
        rw [mkB_list] at hhp hhx
        cases hpx : Lib.hasPrefix rest [92] with
        | true =>
          rw [if_pos hpx] at hu2
          have hp1 := pre_one rest hpx
          have hnx := Aside0.mk hu2
          have hpA := Aside0.mk hpx
          have hext := Aside0.mk (ext_dropL rest 1)
          have hz := mkB_size rest
          clear hu2 hml hbl hcl hal hk hml2 hpx
          go_wp2_with (first | (go_at_call 24; refine hcut.out.mono ?_; rintro e w2 ⟨rfl, n, rfl⟩) | (go_at_call 25; refine (hws.out n).mono ?_; rintro e w3 ⟨rfl, h1b, hb1, hk1⟩; have hI2 := Aside0.mk (isB_app h1b); clear h1b hk1; have hsz3 := Aside0.mk (Nat.le_of_lt (Nat.lt_of_lt_of_le hlt.out hb1.size)); have hwb := Aside0.mk (writeByte_any w1.heap.size w1.heap.size (byteCells (acc ++ bef)) 92 w3 hI2.out (by have := hle.out.1; rw [byteCells_length, List.length_append]; omega) hsz3.out)) | (go_at_call 27; refine (hhp.out _).mono ?_; rw [hpA.out]; rintro e w4 ⟨rfl, rfl⟩) | (go_at_call 28; refine hwb.out.mono ?_; rintro e w5 ⟨rfl, h1b, hb2, hk2⟩))
          have hI5 : Aside0 (IsB w1.heap.size w1.heap.size (byteCells (acc ++ bef ++ [92])) w5) := ⟨by rw [byteCells_append]; exact Or.inr h1b⟩
          have hB5 := Aside0.mk ((pw_below_drewN hB.out n).trans (hb1.trans hb2))
          have hs5 := Aside0.mk (Nat.lt_of_lt_of_le hlt.out (Nat.le_trans hb1.size hb2.size))
          go_roundw
          case rel => exact ⟨rest.drop 1, acc ++ bef ++ [92], k, by rw [hext.out], by have := hle.out; rw [List.length_append, List.length_append, List.length_singleton, List.length_drop]; omega, by have := hle.out; rw [List.length_drop]; omega, hnx, hI5, hs5, hB5⟩
          case measure => simp only [hext.out, mkB_size, List.length_drop]; have := hle.out; omega
        | false =>
          rw [if_neg (by rw [hpx]; decide)] at hu2
          have hpA := Aside0.mk hpx
          have hn := hexR_n rest
          have hz := mkB_size rest
          generalize hexR rest = cn at *
          obtain ⟨c, n0⟩ := cn
          simp only at hn hu2 hhx
          rcases hn with rfl | ⟨h4, h5, h6⟩
          · rw [if_pos rfl] at hu2
            have hnx := Aside0.mk hu2.symm
            clear hu2 hml hbl hcl hal hk hml2 hpx
            go_wp2_with (first | (go_at_call 24; refine hcut.out.mono ?_; rintro e w2 ⟨rfl, n, rfl⟩) | (go_at_call 25; refine (hws.out n).mono ?_; rintro e w3 ⟨rfl, h1b, hb1, hk1⟩; have hI2 := Aside0.mk (isB_app h1b); clear h1b hk1; have hsz3 := Aside0.mk (Nat.le_of_lt (Nat.lt_of_lt_of_le hlt.out hb1.size)); have hL3 := Aside0.mk (hLA.out.below (((pw_below_drewN hBw.out n)).trans (hb1.mono hB1.out.size)))) | (go_at_call 27; refine (hhp.out _).mono ?_; rw [hpA.out]; rintro e w4 ⟨rfl, rfl⟩) | (go_at_call 29; refine (hhx.out _ hL3.out).mono ?_; rintro e w5 ⟨rfl, hb5⟩))
            exact hQN.out hnx.out _ ((pw_below_drewN hBw.out n).trans ((hb1.mono hB1.out.size).trans (hb5.mono (Nat.le_trans hB1.out.size hsz3.out))))
          · rw [if_neg (by omega)] at hu2
            obtain ⟨nn, rfl⟩ := Int.eq_ofNat_of_zero_le (show 0 ≤ n0 by omega)
            rw [Int.toNat_natCast] at hu2
            have hnx := Aside0.mk hu2
            have hw32 := wrap32_chr c h6
            have hcb := Aside0.mk (show -2147483648 ≤ c ∧ c ≤ 2147483647 by unfold chr at h6; omega)
            have hn4 := Aside0.mk (show 4 ≤ nn ∧ nn ≤ rest.length from ⟨by omega, by omega⟩)
            have hel := Aside0.mk (encodeRune_length c).2
            have hext := Aside0.mk (ext_dropL rest nn)
            have hb0 : (((nn : Nat) : Int) == 0) = false := by rw [beq_eq_false_iff_ne]; omega
            have hnl : nn ≤ rest.length := by omega
            clear hu2 hml hbl hcl hal hk hml2 hpx h4 h5 h6
            go_wp2_with (first | (go_at_call 24; refine hcut.out.mono ?_; rintro e w2 ⟨rfl, n, rfl⟩) | (go_at_call 25; refine (hws.out n).mono ?_; rintro e w3 ⟨rfl, h1b, hb1, hk1⟩; have hI2 := Aside0.mk (isB_app h1b); clear h1b hk1; have hsz3 := Aside0.mk (Nat.le_of_lt (Nat.lt_of_lt_of_le hlt.out hb1.size)); have hL3 := Aside0.mk (hLA.out.below (((pw_below_drewN hBw.out n)).trans (hb1.mono hB1.out.size)))) | (go_at_call 27; refine (hhp.out _).mono ?_; rw [hpA.out]; rintro e w4 ⟨rfl, rfl⟩) | (go_at_call 29; refine (hhx.out _ hL3.out).mono ?_; rintro e w5 ⟨rfl, hb5⟩) | (go_at_call 30; have hI6 := Aside0.mk (isB_below hI2.out hb5); refine (writeRune_any w1.heap.size w1.heap.size (byteCells (acc ++ bef)) c hcb.out.1 hcb.out.2 w5 hI6.out (by have := hle.out.1; rw [byteCells_length, List.length_append]; omega) (Nat.le_trans hsz3.out hb5.size)).mono ?_; rintro e w6 ⟨⟨mm, rfl⟩, h1b, hb6, hk6⟩))
            have hI7 : Aside0 (IsB w1.heap.size w1.heap.size (byteCells (acc ++ bef ++ encodeRune c)) w6) := ⟨by rw [byteCells_append, byteCells_encodeRune]; exact Or.inr h1b⟩
            have hB7 := Aside0.mk ((pw_below_drewN hB.out n).trans ((hb1.trans (hb5.mono hsz3.out)).trans hb6))
            have hs7 := Aside0.mk (Nat.lt_of_lt_of_le hlt.out (Nat.le_trans hb1.size (Nat.le_trans hb5.size hb6.size)))
            go_roundw
            case rel => exact ⟨rest.drop nn, acc ++ bef ++ encodeRune c, k, by rw [hext.out], by have := hle.out; have := hel.out; have := hn4.out; rw [List.length_append, List.length_append, List.length_drop]; omega, by have := hle.out; rw [List.length_drop]; omega, hnx, hI7, hs7, hB7⟩
            case measure => simp only [hext.out, mkB_size, List.length_drop]; have := hle.out; have := hn4.out; omega
  · have hun : unR s = (⟨#[]⟩, askI s) := by unfold unR; rw [if_neg ha]
    rw [hun]
    have hne : (askI s == 0) = false := by rw [beq_eq_false_iff_ne]; exact ha
    have hne2 : (askI s != 0) = true := by rw [bne_iff_ne]; exact ha
    generalize askI s = a at *
    clear hun ha hs hL
    go_enter Tryz.func8, Tryz.ntmps8
    go_wp2_with (go_at_call 19; refine hask.out.mono ?_; rintro e w1 ⟨rfl, hB0⟩)
    go_ret2
    exact ⟨rfl, hB0⟩
def chars_Unescape.f (a0 : ByteArray) : Option (ByteArray × Int) := if a0.size ≤ 140737488351232 then some (unR a0) else none
theorem chars_Unescape.calls (a0 : ByteArray) (r1 : ByteArray) (r2 : Int) (w : World) (hL : LaidW w) (h : chars_Unescape.f a0 = some (r1, r2)) :
    Calls Tryz.prog 8 #[.string a0] w fun e w' => e = .returned (.tuple #[.string r1, .int .i64 r2]) ∧ Below w.heap.size w w' := by
  unfold chars_Unescape.f at h
  split at h
  case isFalse => cases h
  case isTrue hs =>
  have h2 := Option.some.inj h
  have := unesc_any a0 w hL hs
  rw [h2] at this
  exact this
end Go.Proofs.YtegapacamclipaaGreatDoor.G
