/- Of this claim's texts (PureTapWrites): the declarations that the claim reaches (slimclaim.py). -/
import Derived.Test.YtallfkecjibpmaaDoorVWrP
import Derived.Test.YtallfkecjibpmaaDoorVPWr2
import Derived.Test.YtallfkecjibpmaaDoorVRT
import Derived.Test.YtallfkecjibpmaaDoorVM2
set_option linter.unusedVariables false
set_option linter.unusedSimpArgs false
namespace Go.Proofs.YtallfkecjibpmaaDoor.Pure
open Go.RowKit Go.Lib Go.Proofs.YtallfkecjibpmaaDoorW.PrintWords Go.Proofs.YtallfkecjibpmaaDoorW.PrintMore Go.Proofs.YtallfkecjibpmaaDoor.G Go.Proofs.YtallfkecjibpmaaDoor.Nm Go.Proofs.YtallfkecjibpmaaDoor.Rd Go.Proofs.YtallfkecjibpmaaDoor.R Go.Proofs.YtallfkecjibpmaaDoor.M Go.Proofs.YtallfkecjibpmaaDoor.Q
def okT (t : Tst) : Bool := okName t.name && okText t.reason && decide (0 ≤ t.dir) && decide (t.dir ≤ 2) && (!(t.dir == 0) || t.reason.isEmpty)
theorem okT_iff (t : Tst) : okT t = true ↔ okName t.name = true ∧ okText t.reason = true ∧ 0 ≤ t.dir ∧ t.dir ≤ 2 ∧ (t.dir = 0 → t.reason = []) := by
  unfold okT
  rw [Bool.and_eq_true, Bool.and_eq_true, Bool.and_eq_true, Bool.and_eq_true, Bool.or_eq_true, decide_eq_true_eq, decide_eq_true_eq, Bool.not_eq_true', beq_eq_false_iff_ne, List.isEmpty_iff]
  constructor
  · rintro ⟨⟨⟨⟨a, b⟩, c⟩, d⟩, e⟩
    exact ⟨a, b, c, d, fun h => by rcases e with e | e; exact absurd h e; exact e⟩
  · rintro ⟨a, b, c, d, e⟩
    refine ⟨⟨⟨⟨a, b⟩, c⟩, d⟩, ?_⟩
    by_cases h : t.dir = 0
    · exact .inr (e h)
    · exact .inl h
theorem okT_v {t : Tst} (h : okT t = true) : vT t := by
  obtain ⟨a, b, c, d, e⟩ := (okT_iff t).1 h
  refine ⟨a, b, ?_⟩
  by_cases h0 : t.dir = 0
  · exact .inl ⟨h0, e h0⟩
  · omega
theorem prog_shape (t : Tst) (X : Option Int) : (if t.dir < 0 then some 1 else (if t.dir > 2 then some 1 else (if t.dir = 0 then (if (mkD t.reason).toList = ([] : List UInt8) then (if okName t.name = true then (if okText t.reason = true then X else some 1) else some 1) else some 1) else (if okName t.name = true then (if okText t.reason = true then X else some 1) else some 1)))) = if okT t = true then X else some 1 := by
  by_cases h : okT t = true
  · obtain ⟨a, b, c, d, e⟩ := (okT_iff t).1 h
    rw [if_pos h, if_neg (by omega), if_neg (by omega), if_pos a, if_pos b]
    by_cases h0 : t.dir = 0
    · rw [if_pos h0, if_pos ((nil_mk _).2 (e h0))]
    · rw [if_neg h0]
  · rw [if_neg h]
    by_cases h1 : t.dir < 0
    · rw [if_pos h1]
    · by_cases h2 : t.dir > 2
      · rw [if_neg h1, if_pos h2]
      · rw [if_neg h1, if_neg h2]
        by_cases ha : okName t.name = true
        · by_cases hb : okText t.reason = true
          · by_cases h0 : t.dir = 0
            · by_cases h4 : t.reason = []
              · exact absurd ((okT_iff t).2 ⟨ha, hb, by omega, by omega, fun _ => h4⟩) h
              · rw [if_pos h0, if_neg (fun h5 => h4 ((nil_mk _).1 h5))]
            · exact absurd ((okT_iff t).2 ⟨ha, hb, by omega, by omega, fun h5 => absurd h5 h0⟩) h
          · rw [if_pos ha, if_neg hb]; split <;> (try split) <;> rfl
        · rw [if_neg ha]; split <;> (try split) <;> rfl
theorem ref_shape (t : Tst) (X : Option (ByteArray × Int)) (E : Option (ByteArray × Int)) : (if okName t.name = true then (if okText t.reason = true then (if t.dir < 0 then E else (if t.dir > 2 then E else (if t.dir = 0 then (if (mkD t.reason).toList = ([] : List UInt8) then X else E) else X))) else E) else E) = if okT t = true then X else E := by
  by_cases h : okT t = true
  · obtain ⟨a, b, c, d, e⟩ := (okT_iff t).1 h
    rw [if_pos h, if_pos a, if_pos b, if_neg (by omega), if_neg (by omega)]
    by_cases h0 : t.dir = 0
    · rw [if_pos h0, if_pos ((nil_mk _).2 (e h0))]
    · rw [if_neg h0]
  · rw [if_neg h]
    by_cases ha : okName t.name = true
    · by_cases hb : okText t.reason = true
      · rw [if_pos ha, if_pos hb]
        by_cases h1 : t.dir < 0
        · rw [if_pos h1]
        · by_cases h2 : t.dir > 2
          · rw [if_neg h1, if_pos h2]
          · rw [if_neg h1, if_neg h2]
            by_cases h0 : t.dir = 0
            · by_cases h4 : t.reason = []
              · exact absurd ((okT_iff t).2 ⟨ha, hb, by omega, by omega, fun _ => h4⟩) h
              · rw [if_pos h0, if_neg (fun h5 => h4 ((nil_mk _).1 h5))]
            · exact absurd ((okT_iff t).2 ⟨ha, hb, by omega, by omega, fun h5 => absurd h5 h0⟩) h
      · rw [if_pos ha, if_neg hb]
    · rw [if_neg ha]
def small (t : Tst) : Prop := t.name.length ≤ 262144 ∧ t.reason.length ≤ 262144
theorem asked_l0 (ts : List Tst) (hs : ∀ t ∈ ts, small t) (hn : ts.length ≤ 200) : ∀ (d k i : Nat), i + d = ts.length → d < k → tap_asked.l0 k (ts.map toS) (ts.length : Int) (i : Int) = some (if (ts.drop i).all okT = true then 0 else 1)
  | 0, k, i, hi, hk => by
    obtain ⟨k, rfl⟩ : ∃ j, k = j + 1 := ⟨k - 1, by omega⟩
    rw [tap_asked.l0, if_neg (by omega), List.drop_eq_nil_of_le (by omega)]; rfl
  | d + 1, k, i, hi, hk => by
    obtain ⟨k, rfl⟩ : ∃ j, k = j + 1 := ⟨k - 1, by omega⟩
    have hlt : i < ts.length := by omega
    have ih := asked_l0 ts hs hn d k (i + 1) (by omega) (by omega)
    have hsm := hs ts[i] (List.getElem_mem hlt)
    rw [List.drop_eq_getElem_cons hlt, List.all_cons, tap_asked.l0, if_pos (by omega), if_pos (by omega), if_pos (by rw [List.length_map]; omega), rd45_get _ i (by rw [List.length_map]; exact hlt), List.getElem_map, w1 (by omega), ih]
    generalize ts[i] = t at *
    have en : J.tap_isName.f (toS t).f1 = some (okName t.name) := by
      show J.tap_isName.f (mkD t.name) = _
      rw [isName_f _ (by rw [mkD_size]; have := hsm.1; omega), mkD_list]
    have er : J.tap_isText.f (toS t).f3 = some (okText t.reason) := by
      show J.tap_isText.f (mkD t.reason) = _
      rw [isText_f _ (by rw [mkD_size]; have := hsm.2; omega), mkD_list]
    rw [en, er]
    simp only [Option.bind_some]
    refine (prog_shape t _).trans ?_
    cases okT t <;> simp
theorem Write_l0 (ts : List Tst) (hs : ∀ t ∈ ts, small t) (hn : ts.length ≤ 200) (R : Option (ByteArray × Int)) (K : Nat) (hR : ∀ k, K ≤ k → (motleyref27_write.f k (ts.map toR)).bind (fun t => some (t, (0 : Int))) = R) : ∀ (d k i : Nat), i + d = ts.length → K + 1000300 + d < k → motleyref27_Write.l0 k (ts.map toR) (i : Int) = if (ts.drop i).all okT = true then R else some ((⟨#[]⟩ : ByteArray), 1)
  | 0, k, i, hi, hk => by
    obtain ⟨k, rfl⟩ : ∃ j, k = j + 1 := ⟨k - 1, by omega⟩
    rw [motleyref27_Write.l0, List.length_map, if_neg (by omega), List.drop_eq_nil_of_le (by omega)]
    exact hR k (by omega)
  | d + 1, k, i, hi, hk => by
    obtain ⟨k, rfl⟩ : ∃ j, k = j + 1 := ⟨k - 1, by omega⟩
    have hlt : i < ts.length := by omega
    have ih := Write_l0 ts hs hn R K hR d k (i + 1) (by omega) (by omega)
    have hsm := hs ts[i] (List.getElem_mem hlt)
    rw [List.drop_eq_getElem_cons hlt, List.all_cons, motleyref27_Write.l0, List.length_map, if_pos (by omega), if_pos (by omega), rd53_get _ i (by rw [List.length_map]; exact hlt), List.getElem_map, w1 (by omega), ih]
    generalize ts[i] = t at *
    have en : motleyref27_isName.f k (toR t).f1 = some (okName t.name) := by
      show motleyref27_isName.f k (mkD t.name) = _
      rw [isName_eq _ (by rw [mkD_size]; have := hsm.1; omega) k (by omega), mkD_list]
    have er : motleyref27_isReason.f k (toR t).f3 = some (okText t.reason) := by
      show motleyref27_isReason.f k (mkD t.reason) = _
      rw [isReason_eq _ k (by omega), mkD_list]
    rw [en, er]
    simp only [Option.bind_some]
    refine (ref_shape t _ _).trans ?_
    cases okT t <;> simp
theorem Write_bad (ts : List Tst) (hs : ∀ t ∈ ts, small t) (hn : ts.length ≤ 200) : ∀ (d k i : Nat), i + d = ts.length → 1000300 + d < k → ¬ (ts.drop i).all okT = true → motleyref27_Write.l0 k (ts.map toR) (i : Int) = some ((⟨#[]⟩ : ByteArray), 1)
  | 0, k, i, hi, hk, hb => absurd (by rw [List.drop_eq_nil_of_le (by omega)]; rfl) hb
  | d + 1, k, i, hi, hk, hb => by
    obtain ⟨k, rfl⟩ : ∃ j, k = j + 1 := ⟨k - 1, by omega⟩
    have hlt : i < ts.length := by omega
    have ih := Write_bad ts hs hn d k (i + 1) (by omega) (by omega)
    have hsm := hs ts[i] (List.getElem_mem hlt)
    rw [List.drop_eq_getElem_cons hlt, List.all_cons] at hb
    rw [motleyref27_Write.l0, List.length_map, if_pos (by omega), if_pos (by omega), rd53_get _ i (by rw [List.length_map]; exact hlt), List.getElem_map, w1 (by omega)]
    generalize ts[i] = t at *
    have en : motleyref27_isName.f k (toR t).f1 = some (okName t.name) := by
      show motleyref27_isName.f k (mkD t.name) = _
      rw [isName_eq _ (by rw [mkD_size]; have := hsm.1; omega) k (by omega), mkD_list]
    have er : motleyref27_isReason.f k (toR t).f3 = some (okText t.reason) := by
      show motleyref27_isReason.f k (mkD t.reason) = _
      rw [isReason_eq _ k (by omega), mkD_list]
    rw [en, er]
    simp only [Option.bind_some]
    refine (ref_shape t _ _).trans ?_
    by_cases h : okT t = true
    · rw [if_pos h]
      exact ih (fun h2 => hb (by rw [h, h2]; rfl))
    · rw [if_neg h]
theorem wl {i : Nat} (h : i < 4398046511104) : wrap64 ((i : Int) + 1) = ((i + 1 : Nat) : Int) := by rw [Q.w64 (by omega) (by omega)]; omega
def kAt (l1 : List Int) (i : Nat) : Int := if i < l1.length then rd l1 (i : Int) else 1
def tst (x : S84) (k : Int) : Tst := ⟨Go.bits .and .i64 k 1 == 1, x.f0.data.toList, k / 2, x.f1.data.toList, 0⟩
def mkTs (l1 : List Int) : Nat → List S84 → List Tst
  | _, [] => []
  | i, x :: r => tst x (kAt l1 i) :: mkTs l1 (i + 1) r
theorem mk_self (s : ByteArray) : mkD s.data.toList = s := by cases s; simp [mkD]
theorem toS_tst (x : S84) (k : Int) : toS (tst x k) = ⟨Go.bits .and .i64 k 1 == 1, x.f0, k / 2, x.f1⟩ := by unfold toS tst; simp only [mk_self]
theorem toR_tst (x : S84) (k : Int) : toR (tst x k) = ⟨Go.bits .and .i64 k 1 == 1, x.f0, k / 2, x.f1⟩ := by unfold toR tst; simp only [mk_self]
theorem mkTs_len (l1 : List Int) : ∀ (l : List S84) (i : Nat), (mkTs l1 i l).length = l.length
  | [], _ => rfl
  | x :: r, i => by rw [mkTs, List.length_cons, List.length_cons, mkTs_len l1 r]
theorem mkTs_mem (l1 : List Int) : ∀ (l : List S84) (i : Nat), ∀ t ∈ mkTs l1 i l, ∃ x ∈ l, ∃ k, t = tst x k
  | [], _, t, h => by cases h
  | x :: r, i, t, h => by
    rw [mkTs] at h
    rcases List.mem_cons.1 h with rfl | h
    · exact ⟨x, List.mem_cons_self .., _, rfl⟩
    · obtain ⟨y, hy, k, e⟩ := mkTs_mem l1 r (i + 1) t h
      exact ⟨y, List.mem_cons_of_mem _ hy, k, e⟩
theorem rd84_get (L : List S84) (i : Nat) (h : i < L.length) : rd_T84 L (i : Int) = L[i] := by
  unfold rd_T84
  rw [Int.toNat_natCast, List.getD_eq_getElem?_getD, List.getElem?_eq_getElem h]; rfl
theorem tests_l0 (l0 : List S84) (l1 : List Int) (hn : l0.length < 4398046511104) : ∀ (d k i : Nat) (acc : List Tst), i + d = l0.length → d < k → acc.length = i →
    motleylaw27_tests.l0 k l0 l1 (acc.map toS) (acc.map toR) (i : Int) = some ((acc ++ mkTs l1 i (l0.drop i)).map toS, (acc ++ mkTs l1 i (l0.drop i)).map toR)
  | 0, k, i, acc, hi, hk, ha => by
    obtain ⟨k, rfl⟩ : ∃ j, k = j + 1 := ⟨k - 1, by omega⟩
    rw [motleylaw27_tests.l0, if_neg (by omega), List.drop_eq_nil_of_le (by omega), mkTs, List.append_nil]
  | d + 1, k, i, acc, hi, hk, ha => by
    obtain ⟨k, rfl⟩ : ∃ j, k = j + 1 := ⟨k - 1, by omega⟩
    have hlt : i < l0.length := by omega
    have ih := tests_l0 l0 l1 hn d k (i + 1) (acc ++ [tst l0[i] (kAt l1 i)]) (by omega) (by omega) (by rw [List.length_append, List.length_singleton]; omega)
    rw [List.map_append, List.map_append, List.map_cons, List.map_cons, List.map_nil, List.map_nil, toS_tst, toR_tst, List.append_assoc, List.singleton_append] at ih
    rw [List.drop_eq_getElem_cons hlt, mkTs, motleylaw27_tests.l0, if_pos (show (i : Int) < (l0.length : Int) by omega), rd84_get l0 i hlt, wl (by omega)]
    unfold kAt at ih ⊢
    by_cases hx : i < l1.length
    · rw [if_pos hx] at ih ⊢
      rw [if_pos (show (i : Int) < (l1.length : Int) by omega), if_pos (show (0 : Int) ≤ (i : Int) by omega), if_pos (by rw [List.length_map]; omega), if_pos (by rw [List.length_map]; omega)]
      exact ih
    · rw [if_neg hx, show (1 : Int) / 2 = 0 from rfl] at ih
      rw [if_neg hx, if_neg (show ¬ (i : Int) < (l1.length : Int) by omega), if_pos (show (0 : Int) ≤ (i : Int) by omega), if_pos (by rw [List.length_map]; omega), if_pos (by rw [List.length_map]; omega)]
      exact ih
theorem tests_f (l0 : List S84) (l1 : List Int) (hn : l0.length < 4398046511104) (k : Nat) (hk : l0.length < k) : motleylaw27_tests.f k l0 l1 = some ((mkTs l1 0 l0).map toS, (mkTs l1 0 l0).map toR) :=
  tests_l0 l0 l1 hn l0.length k 0 [] (by omega) hk rfl
def sumW : Int → List S84 → Int
  | a, [] => a
  | a, x :: r => sumW (wrap64 (a + wrap64 ((x.f0.size : Int) + (x.f1.size : Int)))) r
theorem over_l0 (l0 : List S84) (hn : l0.length < 4398046511104) : ∀ (d k i : Nat) (a : Int), i + d = l0.length → d < k → motleylaw27_over.l0 k l0 a (i : Int) = some (decide (sumW a (l0.drop i) > 262144))
  | 0, k, i, a, hi, hk => by
    obtain ⟨k, rfl⟩ : ∃ j, k = j + 1 := ⟨k - 1, by omega⟩
    rw [motleylaw27_over.l0, if_neg (by omega), List.drop_eq_nil_of_le (by omega), sumW]
  | d + 1, k, i, a, hi, hk => by
    obtain ⟨k, rfl⟩ : ∃ j, k = j + 1 := ⟨k - 1, by omega⟩
    have hlt : i < l0.length := by omega
    rw [motleylaw27_over.l0, if_pos (by omega), if_pos (by omega), rd84_get l0 i hlt, wl (by omega), List.drop_eq_getElem_cons hlt, sumW]
    exact over_l0 l0 hn d k (i + 1) _ (by omega) (by omega)
theorem sum_lo : ∀ (l : List S84) (a : Int), (∀ x ∈ l, x.f0.size ≤ 140737488351232 ∧ x.f1.size ≤ 140737488351232) → 0 ≤ a → a + l.length * 281474976702464 ≤ 4611686018427387904 → a ≤ sumW a l ∧ ∀ x ∈ l, (x.f0.size : Int) + (x.f1.size : Int) ≤ sumW a l
  | [], a, _, _, _ => ⟨Int.le_refl _, fun x h => by cases h⟩
  | y :: r, a, hs, h0, hb => by
    obtain ⟨s1, s2⟩ := hs y (List.mem_cons_self ..)
    rw [List.length_cons] at hb
    rw [sumW, Q.w64 (x := (y.f0.size : Int) + (y.f1.size : Int)) (by omega) (by omega), Q.w64 (x := a + ((y.f0.size : Int) + (y.f1.size : Int))) (by omega) (by omega)]
    obtain ⟨g1, g2⟩ := sum_lo r (a + ((y.f0.size : Int) + (y.f1.size : Int))) (fun x hx => hs x (List.mem_cons_of_mem _ hx)) (by omega) (by omega)
    refine ⟨by omega, fun x hx => ?_⟩
    rcases List.mem_cons.1 hx with rfl | hx
    · omega
    · exact g2 x hx
theorem numF_toR : ∀ (ts : List Tst) (i : Nat), (numF i ts).map toR = ts.map toR
  | [], _ => rfl
  | t :: ts, i => by rw [numF, List.map_cons, List.map_cons, numF_toR ts]; rfl
theorem data_app (a b : ByteArray) : (a ++ b).data.toList = a.data.toList ++ b.data.toList := by
  rw [ByteArray.data_append, Array.toList_append]
theorem it_data (n : Nat) : (itB (n : Int)).data.toList = decDigits n := by
  unfold itB
  show (Lib.itoa (n : Int)).toArray.toList = _
  rw [List.toList_toArray]
  unfold Lib.itoa
  rw [if_neg (by omega)]
  simp
theorem D3_data {d : Int} (h : d = 1 ∨ d = 2) : (rdOf ByteArray.empty D3 d).data.toList = wordL d := by rcases h with rfl | rfl <;> rfl
theorem step_data (o : ByteArray) (i : Nat) (t : Tst) (hv : vT t) : (stepW o i t).data.toList = o.data.toList ++ (lineL t (i + 1) ++ [10]) := by
  obtain ⟨_, _, hd⟩ := hv
  have e1 : ∀ o : ByteArray, (notW o t).data.toList = o.data.toList ++ (if t.ok = true then [] else [110, 111, 116, 32]) := fun o => by
    unfold notW; split
    · rw [List.append_nil]
    · rw [data_app]
  have hc : ((i : Int) + 1) = ((i + 1 : Nat) : Int) := by omega
  have e2 : ∀ o : ByteArray, (nameW o i t).data.toList = o.data.toList ++ (111 :: 107 :: 32 :: (decDigits (i + 1) ++ nmL t)) := fun o => by
    unfold nameW nmL
    rw [hc]
    split
    · rw [data_app, data_app, it_data, List.append_nil]; rfl
    · rw [data_app, data_app, data_app, data_app, it_data, mkD_list]; simp
  have e3 : ∀ o : ByteArray, (tailW o t).data.toList = o.data.toList ++ (drL t ++ [10]) := fun o => by
    unfold tailW dirW drL rsL
    rcases hd with ⟨h0, h1⟩ | hd
    · rw [if_pos h0, if_pos h1, if_pos h0, data_app]; rfl
    · have hne : ¬ t.dir = 0 := by omega
      rw [if_neg hne, if_neg hne]
      split
      · rw [data_app, data_app, data_app, D3_data hd]; simp
      · rw [data_app, data_app, data_app, data_app, data_app, D3_data hd, mkD_list]; simp
  unfold stepW
  rw [e3, e2, e1]
  unfold lineL restL
  simp
theorem fold_data : ∀ (ts : List Tst) (o : ByteArray) (i : Nat), (∀ t ∈ ts, vT t) → (foldW o i ts).data.toList = o.data.toList ++ (linesF i ts).flatMap (· ++ [10])
  | [], o, i, _ => by show o.data.toList = _; simp [linesF]
  | t :: ts, o, i, hv => by
    rw [foldW, fold_data ts _ _ (fun u hu => hv u (List.mem_cons_of_mem _ hu)), step_data o i t (hv t (List.mem_cons_self ..)), linesF, List.flatMap_cons, List.append_assoc]
theorem whole_data (ts : List Tst) (hv : ∀ t ∈ ts, vT t) : (wholeW ts).data.toList = headL ts.length ++ 10 :: (linesF 0 ts).flatMap (· ++ [10]) := by
  unfold wholeW headL
  rw [fold_data ts _ 0 hv, data_app, data_app, it_data]
  simp
theorem prot_whole (ts : List Tst) (hv : ∀ t ∈ ts, vT t) (hl : ts.length < 900) : prot (wholeW ts) = ⟨numF 0 ts, ts.length, 1, false, false, false, false⟩ := by
  unfold prot
  rw [lns_data, whole_data ts hv, segs_whole ts hv, run_whole ts hv hl]
theorem err_whole (ts : List Tst) (hv : ∀ t ∈ ts, vT t) (hl : ts.length ≤ 200) (hz : (wholeW ts).size ≤ 65536) : errRd (wholeW ts) = 0 := by
  have e := prot_whole ts hv (by omega)
  have eP : errP (wholeW ts) = 0 := by
    unfold errP
    rw [if_neg (by omega), e, if_neg (fun h => by cases h)]
  unfold errRd
  rw [eP, e]
  rw [if_neg (fun h => h rfl), if_neg (fun h => by cases h), if_neg, if_neg, if_neg]
  · show ¬ 200 < (numF 0 ts).length
    rw [numF_len]; omega
  · show ¬ mism (numF 0 ts) (numF 0 ts).length = true
    rw [numF_mism]; decide
  · show ¬ ((numF 0 ts).length : Int) ≠ (ts.length : Int)
    rw [numF_len]; exact fun h => h rfl
theorem known_f : motleylaw27_known.f = some true := by simp [motleylaw27_known.f]
theorem fin_err (s : ByteArray) (e : Int) (k : Nat) (L : List S86) (he : e ≠ 0) : motleylaw27_TapWrites.j0 (k + 2) L s e false = some true := by
  rw [motleylaw27_TapWrites.j0, if_neg (by decide), if_neg he, motleylaw27_TapWrites.j1, if_pos rfl, known_f]; rfl
theorem fin_ok (ts : List Tst) (hv : ∀ t ∈ ts, vT t) (hl : ts.length ≤ 200) (k : Nat) (hk : 1000001 ≤ k) : motleylaw27_TapWrites.j0 (k + 2) (ts.map toR) (wholeW ts) 0 false = some true := by
  rw [motleylaw27_TapWrites.j0, if_neg (by decide), if_pos rfl, motleylaw27_TapWrites.j1]
  by_cases hz : ((wholeW ts).size : Int) > 65536
  · rw [decide_eq_true hz, if_pos rfl, known_f]; rfl
  · have hz2 : (wholeW ts).size ≤ 65536 := by omega
    have er := err_whole ts hv (by omega) hz2
    have et : tap_Read.f (wholeW ts) = some ((numF 0 ts).map toS, 0) := by
      unfold tap_Read.f
      rw [if_pos (by omega), er, if_pos rfl, prot_whole ts hv (by omega)]
    have es : motleylaw27_same.f (k + 1) ((numF 0 ts).map toS) (ts.map toR) = some true := by
      have := same_eq (numF 0 ts) (by rw [numF_len]; omega) (k + 1) (by omega)
      rw [numF_toR] at this
      exact this
    have es2 : motleylaw27_same.f k ((numF 0 ts).map toS) (ts.map toR) = some true := by
      have := same_eq (numF 0 ts) (by rw [numF_len]; omega) k hk
      rw [numF_toR] at this
      exact this
    rw [decide_eq_false hz, if_neg (by decide), et, Option.bind_some]
    simp only [es, es2, Option.bind_some, if_true, known_f]
theorem W_big (ts : List Tst) (K : Nat) (h : 200 < ts.length) : motleyref27_Write.f K (ts.map toR) = some (⟨#[]⟩, 3) ∧ tap_Write.f K (ts.map toS) = some (⟨#[]⟩, 3) := by
  constructor
  · unfold motleyref27_Write.f
    rw [List.length_map, if_pos (by omega)]
  · unfold tap_Write.f tap_asked.f
    rw [List.length_map, if_pos (by omega), Option.bind_some, if_neg (by decide)]
theorem asked_any (ts : List Tst) (hs : ∀ t ∈ ts, small t) (hn : ts.length ≤ 200) (K : Nat) (hK : 2000000 ≤ K) : tap_asked.f K (ts.map toS) = some (if ts.all okT = true then 0 else 1) := by
  unfold tap_asked.f
  rw [List.length_map, if_neg (by omega)]
  have := asked_l0 ts hs hn ts.length K 0 (by omega) (by omega)
  rw [List.drop_zero] at this
  exact this
theorem W_ok (ts : List Tst) (hs : ∀ t ∈ ts, small t) (hn : ts.length ≤ 200) (K : Nat) (hK : 2000000 ≤ K) (hall : ts.all okT = true) : motleyref27_Write.f K (ts.map toR) = some (wholeW ts, 0) ∧ tap_Write.f K (ts.map toS) = some (wholeW ts, 0) := by
  have hv : ∀ t ∈ ts, vT t := fun t ht => okT_v (List.all_eq_true.1 hall t ht)
  constructor
  · unfold motleyref27_Write.f
    rw [List.length_map, if_neg (by omega)]
    have := Write_l0 ts hs hn (some (wholeW ts, 0)) 3000 (fun k hk => by rw [write_f ts hv (by omega) k hk, Option.bind_some]) ts.length K 0 (by omega) (by omega)
    rw [List.drop_zero, if_pos hall] at this
    exact this
  · unfold tap_Write.f
    rw [asked_any ts hs hn K hK, if_pos hall, Option.bind_some, if_pos rfl, written_f ts hv (by omega) _ (by omega), Option.bind_some]
theorem W_bad (ts : List Tst) (hs : ∀ t ∈ ts, small t) (hn : ts.length ≤ 200) (K : Nat) (hK : 2000000 ≤ K) (hall : ¬ ts.all okT = true) : motleyref27_Write.f K (ts.map toR) = some (⟨#[]⟩, 1) ∧ tap_Write.f K (ts.map toS) = some (⟨#[]⟩, 1) := by
  constructor
  · unfold motleyref27_Write.f
    rw [List.length_map, if_neg (by omega)]
    exact Write_bad ts hs hn ts.length K 0 (by omega) (by omega) (by rw [List.drop_zero]; exact hall)
  · unfold tap_Write.f
    rw [asked_any ts hs hn K hK, if_neg hall, Option.bind_some, if_neg (by decide)]
theorem over_f (l0 : List S84) (l1 : List Int) (y0 : l0.length * 32 ≤ 140737488351232) (y1 : l1.length * 8 ≤ 140737488351232) (K : Nat) (hK : l0.length < K) : motleylaw27_over.f K l0 l1 = some (decide (sumW ((l0.length : Int) + (l1.length : Int)) l0 > 262144)) := by
  unfold motleylaw27_over.f
  rw [Q.w64 (x := (l0.length : Int) + (l1.length : Int)) (by omega) (by omega)]
  have eo := over_l0 l0 (by omega) l0.length K 0 ((l0.length : Int) + (l1.length : Int)) (by omega) (by omega)
  rw [List.drop_zero] at eo
  exact eo
theorem fin_all (l0 : List S84) (l1 : List Int) (K : Nat) (hov : motleylaw27_over.f K l0 l1 = some false) (ts : List Tst) (ht : motleylaw27_tests.f K l0 l1 = some (ts.map toS, ts.map toR)) (s : ByteArray) (e : Int) (h1 : motleyref27_Write.f K (ts.map toR) = some (s, e)) (h2 : tap_Write.f K (ts.map toS) = some (s, e)) (h3 : motleylaw27_TapWrites.j0 K (ts.map toR) s e false = some true) : motleylaw27_TapWrites.f K l0 l1 = some true := by
  unfold motleylaw27_TapWrites.f
  rw [hov, Option.bind_some, if_neg (by decide), ht, Option.bind_some]
  simp only
  rw [h1, h2, Option.bind_some, Option.bind_some, if_pos rfl, bne_self_eq_false]
  exact h3
theorem TapWrites (l0 : List S84) (l1 : List Int) (y0 : l0.length * 32 ≤ 140737488351232) (y1 : l1.length * 8 ≤ 140737488351232) (hs : ∀ x ∈ l0, x.f0.size ≤ 140737488351232 ∧ x.f1.size ≤ 140737488351232) : ∃ k, motleylaw27_TapWrites.f k l0 l1 = some true := by
  obtain ⟨K, hk1, hk2⟩ : ∃ K, 2000000 ≤ K ∧ l0.length < K := ⟨l0.length + 2000000, by omega, by omega⟩
  refine ⟨K, ?_⟩
  have ho := over_f l0 l1 y0 y1 K hk2
  by_cases hov : sumW ((l0.length : Int) + (l1.length : Int)) l0 > 262144
  · unfold motleylaw27_TapWrites.f
    rw [ho, decide_eq_true hov, Option.bind_some, if_pos rfl, known_f]; rfl
  · rw [decide_eq_false hov] at ho
    have ht := tests_f l0 l1 (by omega) K hk2
    have hlen := mkTs_len l1 l0 0
    have hmem := mkTs_mem l1 l0 0
    generalize mkTs l1 0 l0 = ts at *
    obtain ⟨k, rfl, hkk⟩ : ∃ j, K = j + 2 ∧ 1000001 ≤ j := ⟨K - 2, by omega, by omega⟩
    by_cases h2 : 200 < l0.length
    · obtain ⟨e1, e2⟩ := W_big ts (k + 2) (by omega)
      exact fin_all l0 l1 _ ho ts ht _ _ e1 e2 (fin_err _ _ _ _ (by decide))
    · have hsz := (sum_lo l0 ((l0.length : Int) + (l1.length : Int)) hs (by omega) (by omega)).2
      have hsm : ∀ t ∈ ts, small t := fun t ht => by
        obtain ⟨x, hx, k, rfl⟩ := hmem t ht
        have h3 := hsz x hx
        have e0 : (tst x k).name.length = x.f0.size := by show x.f0.data.toList.length = _; rw [Array.length_toList]; rfl
        have e1 : (tst x k).reason.length = x.f1.size := by show x.f1.data.toList.length = _; rw [Array.length_toList]; rfl
        exact ⟨by omega, by omega⟩
      by_cases hall : ts.all okT = true
      · obtain ⟨e1, e2⟩ := W_ok ts hsm (by omega) (k + 2) hk1 hall
        exact fin_all l0 l1 _ ho ts ht _ _ e1 e2 (fin_ok ts (fun t ht => okT_v (List.all_eq_true.1 hall t ht)) (by omega) k hkk)
      · obtain ⟨e1, e2⟩ := W_bad ts hsm (by omega) (k + 2) hk1 hall
        exact fin_all l0 l1 _ ho ts ht _ _ e1 e2 (fin_err _ _ _ _ (by decide))
end Go.Proofs.YtallfkecjibpmaaDoor.Pure
