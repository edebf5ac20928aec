/- Of this claim's texts (PWr2): the declarations that the claim reaches (slimclaim.py). -/
import Derived.Lib.ItoaLen
import Derived.Test.YtallfkecjibpmaaDoorVPWr1
import Derived.Test.YtallfkecjibpmaaDoorVM1
import Derived.Test.YtallfkecjibpmaaDoorVM2
set_option linter.unusedVariables false
set_option linter.unusedSimpArgs false
namespace Go.Proofs.YtallfkecjibpmaaDoor.Q
open Go.RowKit Go.Proofs.YtallfkecjibpmaaDoorW.PrintWords Go.Proofs.YtallfkecjibpmaaDoorW.PrintMore Go.Proofs.YtallfkecjibpmaaDoor.G Go.Proofs.YtallfkecjibpmaaDoor.Nm Go.Proofs.YtallfkecjibpmaaDoor.Rd Go.Proofs.YtallfkecjibpmaaDoor.R Go.Proofs.YtallfkecjibpmaaDoor.M
def D3 : List ByteArray := [(⟨#[]⟩ : ByteArray), (⟨#[83, 75, 73, 80]⟩ : ByteArray), (⟨#[84, 79, 68, 79]⟩ : ByteArray)]
def notW (o : ByteArray) (t : Tst) : ByteArray := if t.ok = true then o else o ++ (⟨#[110, 111, 116, 32]⟩ : ByteArray)
def itB (i : Int) : ByteArray := ⟨(Lib.itoa i).toArray⟩
def nameW (o : ByteArray) (i : Nat) (t : Tst) : ByteArray := if t.name = [] then o ++ ((⟨#[111, 107, 32]⟩ : ByteArray) ++ itB ((i : Int) + 1)) else (o ++ ((⟨#[111, 107, 32]⟩ : ByteArray) ++ itB ((i : Int) + 1))) ++ ((⟨#[32, 45, 32]⟩ : ByteArray) ++ mkD t.name)
def dirW (o : ByteArray) (t : Tst) : ByteArray := if t.dir = 0 then o else o ++ ((⟨#[32, 35, 32]⟩ : ByteArray) ++ rdOf ByteArray.empty D3 t.dir)
def tailW (o : ByteArray) (t : Tst) : ByteArray := (if t.reason = [] then dirW o t else dirW o t ++ ((⟨#[32]⟩ : ByteArray) ++ mkD t.reason)) ++ (⟨#[10]⟩ : ByteArray)
def stepW (o : ByteArray) (i : Nat) (t : Tst) : ByteArray := tailW (nameW (notW o t) i t) t
def foldW : ByteArray → Nat → List Tst → ByteArray
  | o, _, [] => o
  | o, i, t :: r => foldW (stepW o i t) (i + 1) r
def wholeW (ts : List Tst) : ByteArray := foldW (((⟨#[49, 46, 46]⟩ : ByteArray) ++ itB ts.length) ++ (⟨#[10]⟩ : ByteArray)) 0 ts
theorem sA : (⟨#[110, 111, 116, 32]⟩ : ByteArray).size = 4 := rfl
theorem sB : (⟨#[111, 107, 32]⟩ : ByteArray).size = 3 := rfl
theorem sC : (⟨#[32, 45, 32]⟩ : ByteArray).size = 3 := rfl
theorem sD : (⟨#[32, 35, 32]⟩ : ByteArray).size = 3 := rfl
theorem sE : (⟨#[32]⟩ : ByteArray).size = 1 := rfl
theorem sF : (⟨#[10]⟩ : ByteArray).size = 1 := rfl
theorem sG : (⟨#[49, 46, 46]⟩ : ByteArray).size = 3 := rfl
theorem itB_size (i : Int) (h0 : 0 ≤ i) (h1 : i ≤ 1000000) : (itB i).size ≤ 21 := by
  have := Lib.itoa_length_le i (by omega) (by omega)
  have e : (itB i).size = (Lib.itoa i).length := by simp [itB, ByteArray.size]
  omega
theorem itoa_f (i : Int) (h0 : 0 ≤ i) (h1 : i ≤ 1000000) : strconv_Itoa.f i = some (itB i) := by unfold strconv_Itoa.f; rw [if_pos ⟨by omega, by omega⟩]; rfl
theorem written_i (i : Int) (h0 : 0 ≤ i) (h1 : i ≤ 1000000) : motleyref01_Written.f i = some (itB i) := by unfold motleyref01_Written.f; rw [if_pos ⟨by omega, by omega⟩]; rfl
theorem dsz {d : Int} (h : d = 1 ∨ d = 2) : (rdOf ByteArray.empty D3 d).size = 4 := by rcases h with rfl | rfl <;> rfl
theorem okText_len {l : Bs} (h : Rd.okText l = true) : l.length ≤ 200 := by
  unfold Rd.okText at h
  rw [Bool.and_eq_true, Bool.and_eq_true] at h
  exact of_decide_eq_true h.1.1
theorem okName_len {l : Bs} (h : okName l = true) : l.length ≤ 200 := by
  unfold okName at h
  rw [Bool.and_eq_true] at h
  exact okText_len h.1
theorem nil_mk (l : Bs) : (mkD l).toList = ([] : List UInt8) ↔ l = [] := by rw [ByteArray.toList_eq, mkD_list]
theorem tail_P (k : Nat) (o : ByteArray) (L : List S57) (n i : Int) (b : Bool) (nm : ByteArray) (t : Tst) (hv : vT t) (ho : o.size ≤ 1000000000) :
    tap_written.j2 (k + 1) o L n i b nm t.dir (mkD t.reason) = tap_written.l0 k (tailW o t) L n (wrap64 (i + 1)) := by
  obtain ⟨_, hr, hd⟩ := hv
  have hrs : (mkD t.reason).size ≤ 200 := by rw [mkD_size]; exact okText_len hr
  rw [tap_written.j2]
  unfold tailW dirW
  rcases hd with ⟨h0, h1⟩ | hd
  · rw [if_pos h0, if_pos ((nil_mk _).2 h1), if_pos (by omega), if_pos h0, if_pos h1]
  · have hne : ¬ t.dir = 0 := by omega
    have hw := dsz hd
    rw [if_neg hne, show tap_directives.f = some D3 from rfl, Option.bind_some, if_pos (by omega), if_pos (by show t.dir < 3; omega), if_pos (by omega), if_pos (by rw [ByteArray.size_append, sD, hw]; omega), if_neg hne]
    by_cases h1 : t.reason = []
    · rw [if_pos ((nil_mk _).2 h1), if_pos (by rw [ByteArray.size_append, ByteArray.size_append, sD, hw]; omega), if_pos h1]
    · rw [if_neg (fun h => h1 ((nil_mk _).1 h)), if_pos (by omega), if_pos (by rw [ByteArray.size_append, ByteArray.size_append, ByteArray.size_append, sD, sE, hw]; omega), if_pos (by rw [ByteArray.size_append, ByteArray.size_append, ByteArray.size_append, ByteArray.size_append, sD, sE, hw]; omega), if_neg h1]
theorem name_P (k : Nat) (o : ByteArray) (L : List S57) (n : Int) (i : Nat) (hi : i < 1000) (b : Bool) (d : Int) (r : ByteArray) (t : Tst) (hv : vT t) (ho : o.size ≤ 1000000000) :
    tap_written.j1 (k + 1) o (i : Int) L n (i : Int) b (mkD t.name) d r = tap_written.j2 k (nameW o i t) L n (i : Int) b (mkD t.name) d r := by
  have hns : (mkD t.name).size ≤ 200 := by rw [mkD_size]; exact okName_len hv.1
  have hit := itB_size ((i : Int) + 1) (by omega) (by omega)
  rw [tap_written.j1, w1 (by omega), show ((i + 1 : Nat) : Int) = (i : Int) + 1 by omega, itoa_f _ (by omega) (by omega), Option.bind_some, if_pos (by omega), if_pos (by rw [ByteArray.size_append, sB]; omega)]
  unfold nameW
  by_cases h1 : t.name = []
  · rw [if_pos ((nil_mk _).2 h1), if_pos h1]
  · rw [if_neg (fun h => h1 ((nil_mk _).1 h)), if_pos (by omega), if_pos (by rw [ByteArray.size_append, ByteArray.size_append, ByteArray.size_append, sB, sC]; omega), if_neg h1]
theorem not_size (o : ByteArray) (t : Tst) : (notW o t).size ≤ o.size + 4 := by
  unfold notW; split
  · omega
  · rw [ByteArray.size_append, sA]; omega
theorem name_size (o : ByteArray) (i : Nat) (hi : i < 1000) (t : Tst) (hv : vT t) : (nameW o i t).size ≤ o.size + 230 := by
  have hns : (mkD t.name).size ≤ 200 := by rw [mkD_size]; exact okName_len hv.1
  have hit := itB_size ((i : Int) + 1) (by omega) (by omega)
  unfold nameW; split
  · rw [ByteArray.size_append, ByteArray.size_append, sB]; omega
  · rw [ByteArray.size_append, ByteArray.size_append, ByteArray.size_append, ByteArray.size_append, sB, sC]; omega
theorem tail_size (o : ByteArray) (t : Tst) (hv : vT t) : (tailW o t).size ≤ o.size + 210 := by
  obtain ⟨_, hr, hd⟩ := hv
  have hrs : (mkD t.reason).size ≤ 200 := by rw [mkD_size]; exact okText_len hr
  have h1 : (dirW o t).size ≤ o.size + 7 := by
    unfold dirW; split
    · omega
    · rename_i hne
      rw [ByteArray.size_append, ByteArray.size_append, sD, dsz (by rcases hd with h | h; exact absurd h.1 hne; exact h)]; omega
  unfold tailW; rw [ByteArray.size_append, sF]; split
  · omega
  · rw [ByteArray.size_append, ByteArray.size_append, sE]; omega
theorem step_size (o : ByteArray) (i : Nat) (hi : i < 1000) (t : Tst) (hv : vT t) : (stepW o i t).size ≤ o.size + 500 := by
  have h1 := not_size o t
  have h2 := name_size (notW o t) i hi t hv
  have h3 := tail_size (nameW (notW o t) i t) t hv
  unfold stepW
  omega
theorem written_l0 (ts : List Tst) (hv : ∀ t ∈ ts, vT t) (hn : ts.length ≤ 900) : ∀ (d k i : Nat) (o : ByteArray), i + d = ts.length → 3 * d < k → o.size ≤ 500 * (i + 1) →
    tap_written.l0 k o (ts.map toS) (ts.length : Int) (i : Int) = some (foldW o i (ts.drop i))
  | 0, k, i, o, hi, hk, ho => by
    obtain ⟨k, rfl⟩ : ∃ j, k = j + 1 := ⟨k - 1, by omega⟩
    rw [tap_written.l0, if_neg (by omega), List.drop_eq_nil_of_le (by omega)]; rfl
  | d + 1, k, i, o, hi, hk, ho => by
    obtain ⟨k, rfl⟩ : ∃ j, k = (j + 2) + 1 := ⟨k - 3, by omega⟩
    have hlt : i < ts.length := by omega
    have hvt := hv ts[i] (List.getElem_mem hlt)
    have h1 := not_size o ts[i]
    have h2 := name_size (notW o ts[i]) i (by omega) ts[i] hvt
    have h3 := step_size o i (by omega) ts[i] hvt
    have hj : ∀ (b : Bool), tap_written.j1 (k + 2) (notW o ts[i]) (i : Int) (ts.map toS) (ts.length : Int) (i : Int) b (mkD ts[i].name) ts[i].dir (mkD ts[i].reason) = some (foldW o i (ts.drop i)) := fun b => by
      rw [name_P (k + 1) _ _ _ i (by omega) b _ _ ts[i] hvt (by omega), tail_P k _ _ _ _ b _ ts[i] hvt (by omega), w1 (by omega), List.drop_eq_getElem_cons hlt, foldW]
      exact written_l0 ts hv hn d k (i + 1) _ (by omega) (by omega) (by unfold stepW at h3; omega)
    rw [tap_written.l0, if_pos (by omega), if_pos (by omega), if_pos (by rw [List.length_map]; omega), rd45_get _ i (by rw [List.length_map]; exact hlt), List.getElem_map]
    by_cases hok : ts[i].ok = true
    · rw [if_pos (show (toS ts[i]).f0 = true from hok)]
      have := hj (toS ts[i]).f0
      rw [show notW o ts[i] = o from by unfold notW; rw [if_pos hok]] at this
      exact this
    · rw [if_neg (show ¬ (toS ts[i]).f0 = true from hok), if_pos (by omega)]
      have := hj (toS ts[i]).f0
      rw [show notW o ts[i] = o ++ (⟨#[110, 111, 116, 32]⟩ : ByteArray) from by unfold notW; rw [if_neg hok]] at this
      exact this
theorem written_f (ts : List Tst) (hv : ∀ t ∈ ts, vT t) (hn : ts.length ≤ 900) (k : Nat) (hk : 3000 ≤ k) : tap_written.f k (ts.map toS) = some (wholeW ts) := by
  have hit := itB_size (ts.length : Int) (by omega) (by omega)
  unfold tap_written.f
  rw [List.length_map, itoa_f _ (by omega) (by omega), Option.bind_some, if_pos (by omega), if_pos (by rw [ByteArray.size_append, sG]; omega)]
  exact written_l0 ts hv hn ts.length k 0 _ (by omega) (by omega) (by rw [ByteArray.size_append, ByteArray.size_append, sG, sF]; omega)
theorem tail_R (k : Nat) (o : ByteArray) (L : List S86) (i : Nat) (t : Tst) (hi : i < L.length) (hL : rd_T86 L (i : Int) = toR t) (hv : vT t) (ho : o.size ≤ 1000000000) :
    motleyref27_write.j2 (k + 1) L o (i : Int) = motleyref27_write.l0 k L (tailW o t) (wrap64 ((i : Int) + 1)) := by
  obtain ⟨_, hr, hd⟩ := hv
  have hrs : (mkD t.reason).size ≤ 200 := by rw [mkD_size]; exact okText_len hr
  rw [motleyref27_write.j2, hL, if_pos (by omega), if_pos (by omega)]
  show (if t.dir > 0 then _ else _) = _
  unfold tailW dirW
  rcases hd with ⟨h0, h1⟩ | hd
  · rw [if_neg (by omega), if_pos (show (toR t).f3.toList = [] from (nil_mk _).2 h1), if_pos (by omega), if_pos h0, if_pos h1]
  · have hne : ¬ t.dir = 0 := by omega
    have hw := dsz hd
    have e2 : (toR t).f2 = t.dir := rfl
    have e3 : (toR t).f3 = mkD t.reason := rfl
    rw [if_pos (by omega), Option.bind_some, e2, e3]
    change (if 0 ≤ t.dir then (if t.dir < (3 : Int) then (if 3 + (rdOf ByteArray.empty D3 t.dir).size ≤ 9223372036854775807 then (if o.size + ((⟨#[32, 35, 32]⟩ : ByteArray) ++ (rdOf ByteArray.empty D3 t.dir)).size ≤ 9223372036854775807 then (if (mkD t.reason).toList = ([] : List UInt8) then (if (o ++ ((⟨#[32, 35, 32]⟩ : ByteArray) ++ (rdOf ByteArray.empty D3 t.dir))).size + 1 ≤ 9223372036854775807 then _ else _) else (if 1 + (mkD t.reason).size ≤ 9223372036854775807 then (if (o ++ ((⟨#[32, 35, 32]⟩ : ByteArray) ++ (rdOf ByteArray.empty D3 t.dir))).size + ((⟨#[32]⟩ : ByteArray) ++ (mkD t.reason)).size ≤ 9223372036854775807 then (if ((o ++ ((⟨#[32, 35, 32]⟩ : ByteArray) ++ (rdOf ByteArray.empty D3 t.dir))) ++ ((⟨#[32]⟩ : ByteArray) ++ (mkD t.reason))).size + 1 ≤ 9223372036854775807 then _ else _) else _) else _)) else _) else _) else _) else _) = _
    rw [if_pos (by omega), if_pos (by omega), if_pos (by omega), if_pos (by rw [ByteArray.size_append, sD, hw]; omega), if_neg hne]
    by_cases h1 : t.reason = []
    · rw [if_pos ((nil_mk _).2 h1), if_pos (by rw [ByteArray.size_append, ByteArray.size_append, sD, hw]; omega), if_pos h1]; rfl
    · rw [if_neg (fun h => h1 ((nil_mk _).1 h)), if_pos (by omega), if_pos (by rw [ByteArray.size_append, ByteArray.size_append, ByteArray.size_append, sD, sE, hw]; omega), if_pos (by rw [ByteArray.size_append, ByteArray.size_append, ByteArray.size_append, ByteArray.size_append, sD, sE, hw]; omega), if_neg h1]; rfl
theorem name_R (k : Nat) (o : ByteArray) (L : List S86) (i : Nat) (t : Tst) (hi : i < L.length) (hL : rd_T86 L (i : Int) = toR t) (h9 : i < 1000) (hv : vT t) (ho : o.size ≤ 1000000000) :
    motleyref27_write.j1 (k + 1) L o (i : Int) = motleyref27_write.j2 k L (nameW o i t) (i : Int) := by
  have hns : (mkD t.name).size ≤ 200 := by rw [mkD_size]; exact okName_len hv.1
  have hit := itB_size ((i : Int) + 1) (by omega) (by omega)
  have e1 : (toR t).f1 = mkD t.name := rfl
  rw [motleyref27_write.j1, w1 (by omega), show ((i + 1 : Nat) : Int) = (i : Int) + 1 by omega, written_i _ (by omega) (by omega), Option.bind_some, if_pos (by omega), if_pos (by rw [ByteArray.size_append, sB]; omega), if_pos (by omega), if_pos (by omega), hL, e1]
  unfold nameW
  by_cases h1 : t.name = []
  · rw [if_pos ((nil_mk _).2 h1), if_pos h1]
  · rw [if_neg (fun h => h1 ((nil_mk _).1 h)), if_pos (by omega), if_pos (by rw [ByteArray.size_append, ByteArray.size_append, ByteArray.size_append, sB, sC]; omega), if_neg h1]
theorem write_l0 (ts : List Tst) (hv : ∀ t ∈ ts, vT t) (hn : ts.length ≤ 900) : ∀ (d k i : Nat) (o : ByteArray), i + d = ts.length → 3 * d < k → o.size ≤ 500 * (i + 1) →
    motleyref27_write.l0 k (ts.map toR) o (i : Int) = some (foldW o i (ts.drop i))
  | 0, k, i, o, hi, hk, ho => by
    obtain ⟨k, rfl⟩ : ∃ j, k = j + 1 := ⟨k - 1, by omega⟩
    rw [motleyref27_write.l0, List.length_map, if_neg (by omega), List.drop_eq_nil_of_le (by omega)]; rfl
  | d + 1, k, i, o, hi, hk, ho => by
    obtain ⟨k, rfl⟩ : ∃ j, k = (j + 2) + 1 := ⟨k - 3, by omega⟩
    have hlt : i < ts.length := by omega
    have hlm : i < (ts.map toR).length := by rw [List.length_map]; exact hlt
    have hvt := hv ts[i] (List.getElem_mem hlt)
    have h1 := not_size o ts[i]
    have h2 := name_size (notW o ts[i]) i (by omega) ts[i] hvt
    have h3 := step_size o i (by omega) ts[i] hvt
    have hR : rd_T86 (ts.map toR) (i : Int) = toR ts[i] := by rw [rd53_get _ i hlm, List.getElem_map]
    have hj : motleyref27_write.j1 (k + 2) (ts.map toR) (notW o ts[i]) (i : Int) = some (foldW o i (ts.drop i)) := by
      rw [name_R (k + 1) _ _ i ts[i] hlm hR (by omega) hvt (by omega), tail_R k _ _ i ts[i] hlm hR hvt (by omega), w1 (by omega), List.drop_eq_getElem_cons hlt, foldW]
      exact write_l0 ts hv hn d k (i + 1) _ (by omega) (by omega) (by unfold stepW at h3; omega)
    rw [motleyref27_write.l0, if_pos (by omega), if_pos (by omega), hR]
    by_cases hok : ts[i].ok = true
    · rw [if_pos (show (toR ts[i]).f0 = true from hok)]
      rw [show notW o ts[i] = o from by unfold notW; rw [if_pos hok]] at hj
      exact hj
    · rw [if_neg (show ¬ (toR ts[i]).f0 = true from hok), if_pos (by omega)]
      rw [show notW o ts[i] = o ++ (⟨#[110, 111, 116, 32]⟩ : ByteArray) from by unfold notW; rw [if_neg hok]] at hj
      exact hj
theorem write_f (ts : List Tst) (hv : ∀ t ∈ ts, vT t) (hn : ts.length ≤ 900) (k : Nat) (hk : 3000 ≤ k) : motleyref27_write.f k (ts.map toR) = some (wholeW ts) := by
  have hit := itB_size (ts.length : Int) (by omega) (by omega)
  unfold motleyref27_write.f
  rw [List.length_map, written_i _ (by omega) (by omega), Option.bind_some, if_pos (by omega), if_pos (by rw [ByteArray.size_append, sG]; omega)]
  exact write_l0 ts hv hn ts.length k 0 _ (by omega) (by omega) (by rw [ByteArray.size_append, ByteArray.size_append, sG, sF]; omega)
end Go.Proofs.YtallfkecjibpmaaDoor.Q
