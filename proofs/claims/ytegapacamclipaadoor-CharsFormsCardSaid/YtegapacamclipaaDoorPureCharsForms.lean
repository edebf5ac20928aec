/- The plain law of CharsForms: what it computes is true. -/
import Derived.Test.YtegapacamclipaaDoorPForms
import Derived.Test.YtegapacamclipaaDoorM10
import Derived.Test.YtegapacamclipaaDoorM9
set_option linter.unusedVariables false
set_option linter.unusedSimpArgs false
namespace Go.Proofs.YtegapacamclipaaDoor.Q
open Go.RowKit Go.Proofs.YtegapacamclipaaDoorW.PrintWords Go.Proofs.YtegapacamclipaaDoor.Tx Go.Proofs.YtegapacamclipaaDoor.G Go.Proofs.YtegapacamclipaaDoor.M Go.Lib

set_option maxHeartbeats 2000000 in
theorem capital_eq (c : Int) (hc : chr c) (k : Nat) : motleyref02_capital.f (k + 3) c = some (capI c) := by
  unfold chr at hc
  have w : 32 ≤ c → wrap64 (c - 32) = c - 32 := fun h => wrap64_id (by omega) (by omega)
  simp only [motleyref02_capital.f, motleyref02_capital.j0, within_eq, Option.bind_some, decide_eq_true_eq, bne_iff_ne, ne_eq, Bool.false_eq_true, if_false]
  by_cases h1 : c = 962
  · rw [if_pos h1]; unfold capI; rw [if_pos h1]
  rw [if_neg h1]
  by_cases hl : isLow c
  · have hl2 := hl
    unfold isLow at hl2
    have e : capI c = [c - 32] := by
      unfold capI
      rw [if_neg h1, if_neg (show ¬ c = 383 by omega), if_neg (show ¬ c = 223 by omega), if_neg (show ¬ c = 329 by omega), if_neg (show ¬ (64256 ≤ c ∧ c ≤ 64262) by omega), if_pos hl]
    rw [e, w (by omega)]
    by_cases a1 : 97 ≤ c ∧ c ≤ 122
    · rw [if_pos a1]
    rw [if_neg a1]
    by_cases a2 : 224 ≤ c ∧ c ≤ 254
    · rw [if_pos a2, if_pos (by omega)]
    rw [if_neg a2]
    by_cases a3 : 945 ≤ c ∧ c ≤ 969
    · rw [if_pos a3]
    rw [if_neg a3, if_pos (by omega)]
  have hl2 := hl
  unfold isLow at hl2
  unfold capI
  rw [if_neg h1, if_neg hl]
  have r : ∀ x : Option (List Int), (if 945 ≤ c ∧ c ≤ 969 then some [wrap64 (c - 32)] else if 1072 ≤ c ∧ c ≤ 1103 then some [wrap64 (c - 32)] else x) = x := fun x => by rw [if_neg (by omega), if_neg (by omega)]
  have e : ∀ x : Option (List Int), (if 97 ≤ c ∧ c ≤ 122 then some [wrap64 (c - 32)] else if 224 ≤ c ∧ c ≤ 254 then (if ¬ c = 247 then some [wrap64 (c - 32)] else x) else x) = x := fun x => by
    rw [if_neg (by omega)]
    by_cases a : 224 ≤ c ∧ c ≤ 254
    · rw [if_pos a, if_neg (by omega)]
    · rw [if_neg a]
  rw [r, e]
  by_cases h2 : c = 383
  · rw [if_pos h2, if_pos h2]
  rw [if_neg h2, if_neg h2]
  by_cases h3 : c = 223
  · rw [if_pos h3, if_pos h3]
  rw [if_neg h3, if_neg h3]
  by_cases h4 : c = 329
  · rw [if_pos h4, if_pos h4]
  rw [if_neg h4, if_neg h4]
  by_cases h7 : 64256 ≤ c ∧ c ≤ 64262
  · rw [if_pos h7]
    clear r e w hl2 hl hc h1 h2 h3 h4
    rcases lig_at h7 with rfl | rfl | rfl | rfl | rfl | rfl | rfl <;> rfl
  · rw [if_neg h7, if_neg (by omega), if_neg (by omega), if_neg (by omega), if_neg (by omega), if_neg (by omega), if_neg (by omega), if_neg (by omega)]

theorem capital_at (c : Int) (hc : chr c) (k : Nat) (hk : 3 ≤ k) : motleyref02_capital.f k c = some (capI c) := by
  obtain ⟨k, rfl⟩ : ∃ j, k = j + 3 := ⟨k - 3, by omega⟩
  exact capital_eq c hc k
theorem smallOf_l0 (l : List Int) (hc : allChr l) (hl : l.length ≤ 1000) : ∀ (d k i : Nat), i + d = l.length → d + 4 < k →
    motleyref02_smallOf.l0 k l ((l.take i).map smallI) (i : Int) = some (l.map smallI)
  | 0, k, i, hi, hk => by
    obtain ⟨k, rfl⟩ : ∃ j, k = j + 1 := ⟨k - 1, by omega⟩
    simp only [motleyref02_smallOf.l0]
    rw [if_neg (by omega), List.take_of_length_le (by omega)]
  | d + 1, k, i, hi, hk => by
    obtain ⟨k, rfl⟩ : ∃ j, k = j + 1 := ⟨k - 1, by omega⟩
    simp only [motleyref02_smallOf.l0]
    have h1 : i < l.length := by omega
    rw [if_pos (by omega), if_pos (by omega), rd_nat, small_at _ (allChr_at hc i h1) k (by omega)]
    simp only [Option.bind_some]
    rw [if_pos (by rw [List.length_map, List.length_take]; omega)]
    have e1 : wrap64 ((i : Int) + 1) = ((i + 1 : Nat) : Int) := by rw [wrap64_id (by omega) (by omega)]; omega
    have e2 : (l.take i).map smallI ++ [smallI (l.getD i 0)] = (l.take (i + 1)).map smallI := by
      rw [List.take_succ_eq_append_getElem h1, List.map_append, List.getD_eq_getElem?_getD, List.getElem?_eq_getElem h1]
      rfl
    rw [e1, e2, smallOf_l0 l hc hl d k (i + 1) (by omega) (by omega)]
theorem smallOf_eq (l : List Int) (hc : allChr l) (hl : l.length ≤ 1000) (k : Nat) (hk : l.length + 4 < k) : motleyref02_smallOf.f k l = some (l.map smallI) := by
  unfold motleyref02_smallOf.f
  exact smallOf_l0 l hc hl l.length k 0 (by omega) hk

/-- What the form writes for the character at a place. -/
def outI (form : Int) (i : Nat) (c : Int) : List Int := if form = 1 then capI c else if form = 2 then foldI c else if form = 3 ∧ i = 0 then (capI c).take 1 ++ ((capI c).drop 1).map smallI else [smallI c]
def outF (form : Int) : Nat → List Int → List Int
  | _, [] => []
  | i, c :: r => outI form i c ++ outF form (i + 1) r
theorem outI_chr (form : Int) (i : Nat) {c : Int} (h : chr c) : allChr (outI form i c) := by
  unfold outI
  by_cases h1 : form = 1
  · rw [if_pos h1]; exact capI_chr h
  rw [if_neg h1]
  by_cases h2 : form = 2
  · rw [if_pos h2]; exact foldI_chr h
  rw [if_neg h2]
  by_cases h3 : form = 3 ∧ i = 0
  · rw [if_pos h3]
    intro d hd
    rcases List.mem_append.1 hd with hd | hd
    · exact capI_chr h d (List.mem_of_mem_take hd)
    · obtain ⟨x, hx, rfl⟩ := List.mem_map.1 hd
      exact smallI_chr (capI_chr h x (List.mem_of_mem_drop hx))
  · rw [if_neg h3]
    intro d hd
    rw [List.mem_singleton.1 hd]
    exact smallI_chr h
theorem outI_length (form : Int) (i : Nat) (c : Int) : (outI form i c).length ≤ 3 := by
  have h1 := capI_length c
  have h2 := foldI_length c
  unfold outI
  repeat' split
  · exact h1.2
  · exact h2.2
  · rw [List.length_append, List.length_map, List.length_drop, List.length_take]; omega
  · simp
theorem allChr_append {a b : List Int} (ha : allChr a) (hb : allChr b) : allChr (a ++ b) := fun d hd => by
  rcases List.mem_append.1 hd with h | h
  · exact ha d h
  · exact hb d h
theorem formed_l0 (form : Int) (l : List Int) (hc : allChr l) (hl : l.length ≤ 4096) : ∀ (d k i : Nat) (acc : List Int), i + d = l.length → 2 * d + 20000 < k → allChr acc → acc.length ≤ 3 * i →
    motleyref02_formed.l0 k form l acc (i : Int) = some (sizeR (enc (acc ++ outF form i (l.drop i))))
  | 0, k, i, acc, hi, hk, ha, hz => by
    obtain ⟨k, rfl⟩ : ∃ j, k = j + 1 := ⟨k - 1, by omega⟩
    simp only [motleyref02_formed.l0]
    rw [if_neg (by omega), List.drop_eq_nil_of_le (by omega), Write_eq acc ha (by omega) k (by omega)]
    simp only [Option.bind_some]
    rw [rsized_eq]
    simp only [Option.bind_some, outF, List.append_nil]
  | d + 1, k, i, acc, hi, hk, ha, hz => by
    obtain ⟨k, rfl⟩ : ∃ j, k = j + 1 := ⟨k - 1, by omega⟩
    have h1 : i < l.length := by omega
    have hcc := allChr_at hc i h1
    have hd : l.drop i = l.getD i 0 :: l.drop (i + 1) := by
      rw [List.drop_eq_getElem_cons h1, List.getD_eq_getElem?_getD, List.getElem?_eq_getElem h1]
      rfl
    have e1 : wrap64 ((i : Int) + 1) = ((i + 1 : Nat) : Int) := by rw [wrap64_id (by omega) (by omega)]; omega
    have next : ∀ (k2 : Nat) (x : List Int), outI form i (l.getD i 0) = x → 2 * d + 20000 < k2 → motleyref02_formed.l0 k2 form l (acc ++ x) (wrap64 ((i : Int) + 1)) = some (sizeR (enc (acc ++ outF form i (l.drop i)))) := by
      rintro k2 x rfl hk2
      rw [e1, formed_l0 form l hc hl d k2 (i + 1) _ (by omega) hk2 (allChr_append ha (outI_chr form i hcc)) (by rw [List.length_append]; have := outI_length form i (l.getD i 0); omega)]
      rw [hd, outF, List.append_assoc]
    simp only [motleyref02_formed.l0]
    rw [if_pos (by omega)]
    by_cases f1 : form = 1
    · have hx : outI form i (l.getD i 0) = capI (l.getD i 0) := by unfold outI; rw [if_pos f1]
      have := capI_length (l.getD i 0)
      rw [if_pos f1, if_pos (by omega), rd_nat, capital_at _ hcc k (by omega)]
      simp only [Option.bind_some]
      rw [if_pos (by omega)]
      exact next _ _ hx (by omega)
    rw [if_neg f1]
    by_cases f2 : form = 2
    · have hx : outI form i (l.getD i 0) = foldI (l.getD i 0) := by unfold outI; rw [if_neg f1, if_pos f2]
      have := foldI_length (l.getD i 0)
      rw [if_pos f2, if_pos (by omega), rd_nat, FoldOf_at _ hcc k (by omega)]
      simp only [Option.bind_some]
      rw [if_pos (by omega)]
      exact next _ _ hx (by omega)
    rw [if_neg f2]
    have low : ∀ x : Bool, x = false → ¬ (form = 3 ∧ i = 0) → motleyref02_formed.j1 k form l acc (i : Int) x = some (sizeR (enc (acc ++ outF form i (l.drop i)))) := by
      rintro x rfl hn
      have hx : outI form i (l.getD i 0) = [smallI (l.getD i 0)] := by unfold outI; rw [if_neg f1, if_neg f2, if_neg hn]
      obtain ⟨k, rfl⟩ : ∃ j, k = j + 1 := ⟨k - 1, by omega⟩
      simp only [motleyref02_formed.j1, Bool.false_eq_true, if_false]
      rw [if_pos (by omega), if_pos (by omega), rd_nat, small_at _ hcc k (by omega)]
      simp only [Option.bind_some]
      rw [if_pos (by omega)]
      exact next _ _ hx (by omega)
    by_cases f3 : form = 3
    · rw [if_pos f3]
      by_cases hi0 : i = 0
      · subst hi0
        have hx : outI form 0 (l.getD 0 0) = (capI (l.getD 0 0)).take 1 ++ ((capI (l.getD 0 0)).drop 1).map smallI := by unfold outI; rw [if_neg f1, if_neg f2, if_pos ⟨f3, rfl⟩]
        have hlen := capI_length (l.getD 0 0)
        have hcd : allChr ((capI (l.getD 0 0)).drop 1) := fun c h => capI_chr hcc c (List.mem_of_mem_drop h)
        rw [show (((0 : Nat) : Int) == 0) = true from rfl]
        obtain ⟨k, rfl⟩ : ∃ j, k = j + 1 := ⟨k - 1, by omega⟩
        simp only [motleyref02_formed.j1, if_true]
        rw [if_pos (by omega), show rd l 0 = l.getD 0 0 from rfl, capital_at _ hcc k (by omega)]
        simp only [Option.bind_some]
        rw [if_pos (by omega), if_pos (by omega), if_pos (by omega), smallOf_eq _ hcd (by rw [List.length_drop]; omega) k (by rw [List.length_drop]; omega)]
        simp only [Option.bind_some]
        have et : [rd (capI (l.getD 0 0)) 0] = (capI (l.getD 0 0)).take 1 := by
          match h : capI (l.getD 0 0), hlen with
          | a :: r, _ => rfl
        rw [et, if_pos (by rw [List.length_append, List.length_map, List.length_drop, List.length_take]; omega), List.append_assoc]
        exact next _ _ hx (by omega)
      · exact low _ (by simp; omega) (fun h => hi0 h.2)
    · rw [if_neg f3]
      exact low _ rfl (fun h => f3 h.1)
def formedR (form : Int) (s : ByteArray) : ByteArray × Int := if checkI s = 0 then sizeR (enc (outF form 0 (runes s.data.toList))) else (mk [], checkI s)
theorem formed_eq (s : ByteArray) (form : Int) (k : Nat) (hk : 29000 ≤ k) : motleyref02_formed.f k s form = some (formedR form s) := by
  unfold motleyref02_formed.f formedR
  rw [Checked_eq s k (by omega)]
  simp only [Option.bind_some]
  by_cases h : checkI s = 0
  · have hl := runes_le h
    rw [if_pos h, if_pos h, Runes_eq s h k (by omega)]
    simp only [Option.bind_some]
    have := formed_l0 form (runes s.data.toList) (runes_all _) hl (runes s.data.toList).length k 0 [] (by omega) (by omega) (by intro c hc; cases hc) (by simp)
    rw [List.drop_zero, List.nil_append] at this
    exact this
  · rw [if_neg h, if_neg h]; rfl
theorem outF_flat (form : Int) (F : Int → List Int) (h : ∀ i c, outI form i c = F c) : ∀ (l : List Int) (i : Nat), outF form i l = l.flatMap F
  | [], i => rfl
  | c :: l, i => by rw [outF, h, outF_flat form F h l, List.flatMap_cons]
theorem formedR_flat (form : Int) (F : Int → List Int) (h : ∀ i c, outI form i c = F c) (s : ByteArray) : formedR form s = formR F s := by
  unfold formedR formR
  rw [outF_flat form F h]
theorem rLower_eq (s : ByteArray) (k : Nat) (hk : 29000 ≤ k) : motleyref02_Lower.f k s = some (formR (fun c => [smallI c]) s) := by
  unfold motleyref02_Lower.f
  rw [formed_eq s 0 k hk, formedR_flat 0 (fun c => [smallI c]) (fun i c => rfl)]
  rfl
theorem rUpper_eq (s : ByteArray) (k : Nat) (hk : 29000 ≤ k) : motleyref02_Upper.f k s = some (formR capI s) := by
  unfold motleyref02_Upper.f
  rw [formed_eq s 1 k hk, formedR_flat 1 capI (fun i c => rfl)]
  rfl
theorem rFold_eq (s : ByteArray) (k : Nat) (hk : 29000 ≤ k) : motleyref02_Fold.f k s = some (formR foldI s) := by
  unfold motleyref02_Fold.f
  rw [formed_eq s 2 k hk, formedR_flat 2 foldI (fun i c => rfl)]
  rfl
theorem rTitle_eq (s : ByteArray) (k : Nat) (hk : 29000 ≤ k) : motleyref02_Title.f k s = some (formedR 3 s) := by
  unfold motleyref02_Title.f
  rw [formed_eq s 3 k hk]
  rfl
theorem cLower_eq (s : ByteArray) (k : Nat) (hk : 10 ≤ k) : chars_Lower.f k s = some (formR (fun c => [smallI c]) s) := by
  unfold chars_Lower.f formR
  rw [asked_one s k hk]
  simp only [Option.bind_some]
  by_cases h : checkI s = 0
  · have := (check0 h).1
    rw [if_pos h, if_pos h, mapLow_eq s (by omega)]
    simp only [Option.bind_some]
    rw [csized_eq]; rfl
  · rw [if_neg h, if_neg h]; rfl
theorem cUpper_eq (s : ByteArray) (k : Nat) (hk : 10 ≤ k) : chars_Upper.f k s = some (formR capI s) := by
  unfold chars_Upper.f formR
  rw [asked_one s k hk]
  simp only [Option.bind_some]
  by_cases h : checkI s = 0
  · rw [if_pos h, if_pos h, mapCap_eq s h]
    simp only [Option.bind_some]
    rw [csized_eq]; rfl
  · rw [if_neg h, if_neg h]; rfl
theorem cFold_eq (s : ByteArray) (k : Nat) (hk : 10 ≤ k) : chars_Fold.f k s = some (formR foldI s) := by
  unfold chars_Fold.f formR
  rw [asked_one s k hk]
  simp only [Option.bind_some]
  by_cases h : checkI s = 0
  · rw [if_pos h, if_pos h, mapFold_eq s h]
    simp only [Option.bind_some]
    rw [csized_eq]; rfl
  · rw [if_neg h, if_neg h]; rfl
theorem allChr_drop {l : List Int} (h : allChr l) (n : Nat) : allChr (l.drop n) := fun c hc => h c (List.mem_of_mem_drop hc)
theorem allChr_take {l : List Int} (h : allChr l) (n : Nat) : allChr (l.take n) := fun c hc => h c (List.mem_of_mem_take hc)
theorem mk_append (a b : List UInt8) : mk a ++ mk b = mk (a ++ b) := by
  apply ba_ext
  unfold mk
  rw [ByteArray.mk_append_mk]
theorem outF_low : ∀ (l : List Int) (i : Nat), outF 3 (i + 1) l = l.flatMap fun c => [smallI c]
  | [], i => rfl
  | c :: l, i => by rw [outF, outF_low l, List.flatMap_cons]; rfl
theorem cTitle_eq (s : ByteArray) (k : Nat) (hk : 10 ≤ k) : chars_Title.f k s = some (formedR 3 s) := by
  unfold chars_Title.f formedR
  rw [asked_one s k hk]
  simp only [Option.bind_some]
  by_cases h : checkI s = 0
  case neg => rw [if_neg h, if_neg h]; rfl
  rw [if_pos h, if_pos h, points_eq s h]
  have hl := runes_le h
  have hc := runes_all s.data.toList
  generalize runes s.data.toList = l at *
  simp only [Option.bind_some]
  match l, hl, hc with
  | [], hl, hc => rfl
  | c :: r, hl, hc =>
    have hcc : chr c := hc c List.mem_cons_self
    have hcr : allChr r := fun d hd => hc d (List.mem_cons_of_mem _ hd)
    have hcap := capI_length c
    have hcc2 := capI_chr hcc
    rw [List.length_cons] at hl
    rw [if_neg (by rw [List.length_cons]; omega), if_pos (by rw [List.length_cons]; omega)]
    have e0 : chars_capital.f (rd (c :: r) 0) = some (mk (enc (capI c))) := by
      rw [enc_capI]
      show chars_capital.f c = _
      unfold chars_capital.f
      rw [if_pos hcc]; rfl
    have hel := enc_length (capI c)
    have e1 : chars_points.f (mk (enc (capI c))) = some (capI c) := by
      unfold chars_points.f
      rw [if_pos (by rw [mk_size]; omega), mk_list, (runes_enc _ hcc2).1]
    rw [e0]
    simp only [Option.bind_some]
    rw [e1]
    simp only [Option.bind_some]
    rw [if_pos (by omega), ctext_eq _ (allChr_take hcc2 1) (by rw [List.length_take]; omega)]
    simp only [Option.bind_some]
    rw [ctext_eq _ (allChr_drop hcc2 1) (by rw [List.length_drop]; omega)]
    simp only [Option.bind_some]
    rw [if_pos (by rw [List.length_cons]; omega), show (c :: r).drop 1 = r from rfl, ctext_eq r hcr (by omega)]
    simp only [Option.bind_some]
    have l1 := enc_length ((capI c).drop 1)
    have l2 := enc_length r
    have l3 : ((capI c).drop 1).length ≤ 3 := by rw [List.length_drop]; omega
    have hX : allChr ((capI c).drop 1 ++ r) := allChr_append (allChr_drop hcc2 1) hcr
    rw [if_pos (by rw [mk_size, mk_size]; omega), mk_append, ← enc_append, mapLow_eq _ (by rw [mk_size, enc_append, List.length_append]; omega), mk_list, (runes_enc _ hX).1]
    simp only [Option.bind_some]
    have l4 := enc_length ((capI c).take 1)
    have l5 := enc_length (((capI c).drop 1 ++ r).flatMap fun c => [smallI c])
    have l6 := flat_length (F := fun c => [smallI c]) (fun c => by simp) ((capI c).drop 1 ++ r)
    have l7 : ((capI c).take 1).length ≤ 3 := by rw [List.length_take]; omega
    rw [List.length_append] at l6
    rw [if_pos (by rw [mk_size, mk_size]; omega), mk_append, ← enc_append, csized_eq]
    simp only [Option.bind_some]
    have ho : outF 3 0 (c :: r) = (capI c).take 1 ++ ((capI c).drop 1 ++ r).flatMap fun c => [smallI c] := by
      rw [outF, outF_low, List.flatMap_append, ← List.append_assoc]
      congr 1
      show (capI c).take 1 ++ ((capI c).drop 1).map smallI = _
      congr 1
      exact List.map_eq_flatMap
    rw [ho]
end Go.Proofs.YtegapacamclipaaDoor.Q
namespace Go.Proofs.YtegapacamclipaaDoor.Pure
open Go.RowKit Go.Proofs.YtegapacamclipaaDoorW.PrintWords Go.Proofs.YtegapacamclipaaDoor.Tx Go.Proofs.YtegapacamclipaaDoor.G Go.Proofs.YtegapacamclipaaDoor.M Go.Proofs.YtegapacamclipaaDoor.Q Go.Lib
theorem CharsForms : motleylaw02_CharsForms.Pure := by
  intro s hs
  refine ⟨30002, ?_⟩
  unfold motleylaw02_CharsForms.f
  by_cases hz : s.size > 20000
  · rw [if_pos (by omega), known_eq _ (by omega)]; rfl
  have low := formR_again (F := fun c => [smallI c]) (fun c hc d hd => by rw [List.mem_singleton.1 hd]; exact smallI_chr hc) (fun c d hd => by rw [List.mem_singleton.1 hd, small_small]) s
  have fold := formR_again (F := foldI) (fun c hc => foldI_chr hc) fold_fold s
  rw [if_neg (by omega), rLower_eq s _ (by omega), rUpper_eq s _ (by omega), cLower_eq s _ (by omega), cUpper_eq s _ (by omega)]
  simp only [Option.bind_some, if_true, bne_self_eq_false, motleylaw02_CharsForms.j0, Bool.false_eq_true, if_false]
  rw [rTitle_eq s _ (by omega), rFold_eq s _ (by omega), cTitle_eq s _ (by omega), cFold_eq s _ (by omega)]
  simp only [Option.bind_some, if_true, bne_self_eq_false, motleylaw02_CharsForms.j1, Bool.false_eq_true, if_false]
  rw [cLower_eq _ _ (by omega), cFold_eq _ _ (by omega), known_eq 30000 (by omega)]
  simp only [Option.bind_some]
  by_cases h1 : (formR (fun c => [smallI c]) s).2 = 0
  · rw [if_pos h1, low h1, if_pos rfl, if_pos rfl]
    by_cases h2 : (formR foldI s).2 = 0
    · rw [if_pos h2, fold h2, if_pos rfl, if_pos rfl]
    · rw [if_neg h2]
  · rw [if_neg h1]
    by_cases h2 : (formR foldI s).2 = 0
    · rw [if_pos h2, fold h2, if_pos rfl, if_pos rfl]
    · rw [if_neg h2]
end Go.Proofs.YtegapacamclipaaDoor.Pure
