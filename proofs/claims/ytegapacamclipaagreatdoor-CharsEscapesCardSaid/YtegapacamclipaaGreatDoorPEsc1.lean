/- CharsEscapes: the reference's digits, and Escape. -/
import Derived.Test.YtegapacamclipaaGreatDoorPText
import Derived.Test.YtegapacamclipaaGreatDoorPEscL
import Derived.Test.YtegapacamclipaaGreatDoorM3
import Derived.Test.YtegapacamclipaaGreatDoorM4
set_option linter.unusedVariables false
set_option linter.unusedSimpArgs false
namespace Go.Proofs.YtegapacamclipaaGreatDoor.Q
open Go.RowKit Go.Proofs.YtegapacamclipaaGreatDoorW.PrintWords Go.Proofs.YtegapacamclipaaGreatDoor.Tx Go.Proofs.YtegapacamclipaaGreatDoor.G Go.Proofs.YtegapacamclipaaGreatDoor.M Go.Lib
/-! the reference's digits -/
theorem ext_dig : ∀ d : Fin 16, (⟨#[48, 49, 50, 51, 52, 53, 54, 55, 56, 57, 97, 98, 99, 100, 101, 102]⟩ : ByteArray).extract d.1 (d.1 + 1) = mk [hexD d.1] := by decide
theorem mk_app (a b : List UInt8) : mk a ++ mk b = mk (a ++ b) := by apply ba_ext; simp [mk]
theorem hex_step (k u : Nat) (ds : List UInt8) (hu : u < 16777216) (hd : ds.length ≤ 1000) (X : Option ByteArray) :
    (if 0 ≤ (Int.tmod (u : Int) 16) then (if (Int.tmod (u : Int) 16) ≤ (wrap64 ((Int.tmod (u : Int) 16) + 1)) then (if (wrap64 ((Int.tmod (u : Int) 16) + 1)) ≤ 16 then (if ((⟨#[48, 49, 50, 51, 52, 53, 54, 55, 56, 57, 97, 98, 99, 100, 101, 102]⟩ : ByteArray).extract ((Int.tmod (u : Int) 16) : Int).toNat ((wrap64 ((Int.tmod (u : Int) 16) + 1)) : Int).toNat).size + (mk ds).size ≤ 9223372036854775807 then (motleyref02_Hex.l0 k (wrap64 (Int.tdiv (u : Int) 16)) (((⟨#[48, 49, 50, 51, 52, 53, 54, 55, 56, 57, 97, 98, 99, 100, 101, 102]⟩ : ByteArray).extract ((Int.tmod (u : Int) 16) : Int).toNat ((wrap64 ((Int.tmod (u : Int) 16) + 1)) : Int).toNat) ++ mk ds)) else (none)) else (none)) else (none)) else (none))
    = motleyref02_Hex.l0 k ((u / 16 : Nat) : Int) (mk (hexD (u % 16) :: ds)) := by
  have hm : Int.tmod (u : Int) 16 = ((u % 16 : Nat) : Int) := by rw [Int.tmod_eq_emod_of_nonneg (by omega)]; omega
  have hq : Int.tdiv (u : Int) 16 = ((u / 16 : Nat) : Int) := by rw [Int.tdiv_eq_ediv_of_nonneg (by omega)]; omega
  have hlt : u % 16 < 16 := Nat.mod_lt _ (by decide)
  have hw : wrap64 (((u % 16 : Nat) : Int) + 1) = ((u % 16 + 1 : Nat) : Int) := by rw [wrap64_id (by omega) (by omega)]; omega
  rw [hm, hq, hw, wrap64_id (x := ((u / 16 : Nat) : Int)) (by omega) (by omega), Int.toNat_natCast, Int.toNat_natCast, ext_dig ⟨u % 16, hlt⟩]
  rw [if_pos (by omega), if_pos (by omega), if_pos (by omega), if_pos (by rw [mk_size, mk_size]; simp; omega), mk_app]
  rfl
theorem mk_ne (c : UInt8) (ds : List UInt8) : ¬ (mk (c :: ds)).toList = ([] : List UInt8) := by rw [toList_mk]; simp
theorem Hex_l0 : ∀ (n u k : Nat) (ds : List UInt8), 0 < u → u < 16 ^ (n + 1) → u < 16777216 → n + 3 ≤ k → n + ds.length ≤ 900 → motleyref02_Hex.l0 k (u : Int) (mk ds) = some (mk (hexF n u ds))
  | n, u, k, ds, h0, hu, hb, hk, hd => by
    obtain ⟨k, rfl⟩ : ∃ j, k = j + 2 := ⟨k - 2, by omega⟩
    have hend : ∀ (c : UInt8) (l : List UInt8), motleyref02_Hex.l0 (k + 1) ((0 : Nat) : Int) (mk (c :: l)) = some (mk (c :: l)) := fun c l => by
      simp only [motleyref02_Hex.l0]
      rw [if_neg (by decide), if_neg (mk_ne c l)]
    rw [motleyref02_Hex.l0.eq_2]
    rw [if_pos (by omega), hex_step (k + 1) u ds hb (by omega) none]
    by_cases h16 : u < 16
    · rw [show u / 16 = 0 by omega, hend, show u % 16 = u by omega]
      cases n with
      | zero => rfl
      | succ n => rw [hexF, if_pos h16]
    · cases n with
      | zero => simp at hu; omega
      | succ n =>
        rw [hexF, if_neg h16]
        exact Hex_l0 n (u / 16) (k + 1) (hexD (u % 16) :: ds) (by omega) (Nat.div_lt_of_lt_mul (by rw [Nat.pow_succ] at hu; omega)) (by omega) (by omega) (by simp only [List.length_cons]; omega)
theorem Hex_eq (u k : Nat) (hu : u < 16777216) (hk : 12 ≤ k) : motleyref02_Hex.f k (u : Int) = some (mk (hexL u)) := by
  unfold motleyref02_Hex.f hexL
  rcases Nat.eq_zero_or_pos u with rfl | h0
  · obtain ⟨k, rfl⟩ : ∃ j, k = j + 2 := ⟨k - 2, by omega⟩
    rw [motleyref02_Hex.l0.eq_2]
    rw [if_neg (by decide), if_pos (by rw [toList_data])]
    have := hex_step (k + 1) 0 [] (by decide) (by decide) none
    rw [show (⟨#[]⟩ : ByteArray) = mk [] from rfl, this]
    simp only [motleyref02_Hex.l0]
    rw [if_neg (by decide), if_neg (mk_ne _ _)]
    rfl
  · exact Hex_l0 6 u k [] h0 (by omega) hu (by omega) (by simp)
/-! Escape -/
theorem escU_lo (c : Int) (h : c < 32 ∨ 126 < c) (h1 : ¬ c = 92) : escU c = [92, 120, 123] ++ hexL c.toNat ++ [125] := by unfold escU; rw [if_neg h1, if_pos h]
theorem escU_hi (c : Int) (h : ¬ (c < 32 ∨ 126 < c)) (h1 : ¬ c = 92) : escU c = encodeRune c := by unfold escU; rw [if_neg h1, if_neg h]
theorem Esc_j1 (l : List Int) (i : Nat) (c : Int) (out : List UInt8) (b : Bool) (k : Nat) (hc : chr c) (h92 : ¬ c = 92) (hb : b = true ↔ (c < 32 ∨ 126 < c)) (ho : out.length ≤ 100000) (hk : 12 ≤ k) (hi : i ≤ 5000) :
    motleyref02_Escape.j1 (k + 1) (mk out) l (i : Int) c b = motleyref02_Escape.l0 k (mk (out ++ escU c)) l ((i + 1 : Nat) : Int) := by
  have hw : wrap64 ((i : Int) + 1) = ((i + 1 : Nat) : Int) := by rw [wrap64_id (by omega) (by omega)]; omega
  have hl := escU_len c
  simp only [motleyref02_Escape.j1]
  cases b with
  | true =>
    have h2 := hb.1 rfl
    obtain ⟨u, rfl⟩ := Int.eq_ofNat_of_zero_le (show 0 ≤ c by unfold chr at hc; omega)
    rw [if_pos rfl, Hex_eq u k (by unfold chr at hc; omega) hk]
    simp only [Option.bind_some]
    rw [escU_lo _ h2 h92, Int.toNat_natCast] at hl ⊢
    have h3 : (⟨#[92, 120, 123]⟩ : ByteArray) = mk [92, 120, 123] := rfl
    have h4 : (⟨#[125]⟩ : ByteArray) = mk [125] := rfl
    simp only [List.length_append, List.length_cons, List.length_nil] at hl
    rw [h3, h4, mk_app, mk_app, mk_app, if_pos (by rw [mk_size]; omega), if_pos (by rw [mk_size, List.length_append]; simp; omega), if_pos (by rw [mk_size, mk_size, List.length_append, List.length_append]; simp; omega), hw]
  | false =>
    have h2 : ¬ (c < 32 ∨ 126 < c) := fun h => by cases hb.2 h
    have h5 := encodeRune_length c
    rw [if_neg (by decide), one_eq c hc]
    simp only [Option.bind_some]
    rw [if_pos (by rw [mk_size, mk_size]; omega), mk_app, escU_hi c h2 h92, hw]
theorem Esc_l0 (l : List Int) (hc : allChr l) (hl : l.length ≤ 4096) : ∀ (d i k : Nat) (out : List UInt8), i + d = l.length → out.length ≤ 12 * i → 2 * d + 20 ≤ k →
    motleyref02_Escape.l0 k (mk out) l (i : Int) = some (sizeR (out ++ mapL escU (l.drop i)))
  | 0, i, k, out, hi, ho, hk => by
    obtain ⟨k, rfl⟩ : ∃ j, k = j + 1 := ⟨k - 1, by omega⟩
    simp only [motleyref02_Escape.l0]
    rw [if_neg (by omega), rsized_eq, List.drop_of_length_le (by omega)]
    simp [mapL]
  | d + 1, i, k, out, hi, ho, hk => by
    obtain ⟨k, rfl⟩ : ∃ j, k = j + 1 + 1 := ⟨k - 2, by omega⟩
    have hlt : i < l.length := by omega
    have hr : rd l (i : Int) = l[i] := by rw [rd_nat]; simp [List.getD_eq_getElem?_getD, hlt]
    have hci := hc l[i] (List.getElem_mem hlt)
    have hlen := escU_len l[i]
    have hw : wrap64 ((i : Int) + 1) = ((i + 1 : Nat) : Int) := by rw [wrap64_id (by omega) (by omega)]; omega
    rw [List.drop_eq_getElem_cons hlt, mapL_cons, ← List.append_assoc]
    rw [motleyref02_Escape.l0.eq_2]
    rw [if_pos (by omega), if_pos (by omega), hr]
    generalize l[i] = c at *
    by_cases h1 : c = 92
    · subst h1
      rw [if_pos rfl, if_pos (by rw [mk_size]; omega), show (⟨#[92, 92]⟩ : ByteArray) = mk [92, 92] from rfl, mk_app, hw]
      exact Esc_l0 l hc hl d (i + 1) (k + 1) (out ++ [92, 92]) (by omega) (by simp; omega) (by omega)
    · rw [if_neg h1]
      have ih := Esc_l0 l hc hl d (i + 1) k (out ++ escU c) (by omega) (by rw [List.length_append]; omega) (by omega)
      by_cases h2 : c < 32
      · rw [if_pos h2, Esc_j1 l i c out true k hci h1 ⟨fun _ => .inl h2, fun _ => rfl⟩ (by omega) (by omega) (by omega), ih]
      · rw [if_neg h2, Esc_j1 l i c out _ k hci h1 (by rw [decide_eq_true_iff]; omega) (by omega) (by omega) (by omega), ih]
def escR (s : ByteArray) : ByteArray × Int := if checkI s = 0 then sizeR (mapL escU (runes s.data.toList)) else (mk [], checkI s)
theorem rEsc_eq (s : ByteArray) (k : Nat) (hk : 9000 ≤ k) : motleyref02_Escape.f k s = some (escR s) := by
  unfold motleyref02_Escape.f escR
  rw [Checked_eq s k (by omega)]
  simp only [Option.bind_some]
  by_cases h : checkI s = 0
  · rw [if_pos h, if_pos h, Runes_eq s h k (by omega)]
    simp only [Option.bind_some]
    have hl := runes_le h
    have := Esc_l0 (runes s.data.toList) (runes_all _) hl (runes s.data.toList).length 0 k [] (by omega) (by simp) (by omega)
    rw [List.drop_zero, List.nil_append] at this
    exact this
  · rw [if_neg h, if_neg h]; rfl
theorem cEsc_eq (s : ByteArray) (k : Nat) (hk : 10 ≤ k) : chars_Escape.f k s = some (escR s) := by
  unfold chars_Escape.f escR
  rw [asked_one s k hk]
  simp only [Option.bind_some]
  by_cases h : checkI s = 0
  · rw [if_pos h, if_pos h]
    unfold mapped_Escape.f
    rw [if_pos (by have := (check0 h).1; omega)]
    simp only [Option.bind_some]
    rw [show (⟨(mapL escU (runes s.data.toList)).toArray⟩ : ByteArray) = mk (mapL escU (runes s.data.toList)) from rfl, csized_eq]
    rfl
  · rw [if_neg h, if_neg h]; rfl
end Go.Proofs.YtegapacamclipaaGreatDoor.Q
