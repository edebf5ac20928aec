/- CharsEscapes: Unescape. -/
import Derived.Test.YtegapacamclipaaGreatDoorPEsc1
import Derived.Test.YtegapacamclipaaGreatDoorPEsc2
import Derived.Test.YtegapacamclipaaGreatDoorM4
set_option linter.unusedVariables false
set_option linter.unusedSimpArgs false
namespace Go.Proofs.YtegapacamclipaaGreatDoor.Q
open Go.RowKit Go.Proofs.YtegapacamclipaaGreatDoorW.PrintWords Go.Proofs.YtegapacamclipaaGreatDoor.Tx Go.Proofs.YtegapacamclipaaGreatDoor.G Go.Proofs.YtegapacamclipaaGreatDoor.M Go.Lib
/-! Unescape -/
theorem pre92 (c : UInt8) (l : List UInt8) : Lib.hasPrefix (c :: l) [92] = decide (c = 92) := by
  unfold Lib.hasPrefix
  by_cases h : c = 92
  · subst h; rfl
  · rw [decide_eq_false h]
    simp [List.isPrefixOf]
    exact fun e => h e.symm
theorem Un_j1 (s : List UInt8) (hs : s.length ≤ 4096) (i k : Nat) (out : List UInt8) (hi : i < s.length) (ho : out.length ≤ 100000) (hk : 30 ≤ k) :
    motleyref02_Unescape.j1 (k + 1) (mk s) (ints out) (i : Int) false = if (hexR (s.drop (i + 1))).2 = 0 then some (mk [], 2) else motleyref02_Unescape.l0 k (mk s) (ints (out ++ encodeRune (hexR (s.drop (i + 1))).1)) ((i + 1 + (hexR (s.drop (i + 1))).2.toNat : Nat) : Int) := by
  have hw : wrap64 ((i : Int) + 1) = ((i + 1 : Nat) : Int) := by rw [wrap64_id (by omega) (by omega)]; omega
  have hx : (mk s).extract (i + 1) (mk s).size = mk (s.drop (i + 1)) := by apply ba_ext; rw [ext_drop, mk_list, mk_list]
  simp only [motleyref02_Unescape.j1]
  rw [if_neg (by decide), hw, if_pos (by omega), if_pos (by rw [mk_size]; omega), Int.toNat_natCast, hx, Braced_eq _ k (by rw [List.length_drop]; omega) (by omega)]
  simp only [Option.bind_some]
  have hn := hexR_n (s.drop (i + 1))
  generalize hexR (s.drop (i + 1)) = cn at *
  obtain ⟨c, n⟩ := cn
  simp only at hn ⊢
  by_cases h0 : n = 0
  · rw [if_pos h0, if_pos h0]; rfl
  · rw [if_neg h0, if_neg h0]
    rcases hn with hn | ⟨h4, h5, h6⟩
    · exact absurd hn h0
    · have hel := encodeRune_length c
      rw [List.length_drop] at h5
      rw [one_eq c h6]
      simp only [Option.bind_some]
      rw [if_pos (by rw [ints_length, mk_size]; omega), bytesOf_mk, ← ints_append, wrap64_id (x := (i : Int) + n) (by omega) (by omega), wrap64_id (x := (i : Int) + n + 1) (by omega) (by omega)]
      congr 1
      omega
theorem Un_end (s : List UInt8) (i k kk : Nat) (out : List UInt8) (hi : i = s.length) : motleyref02_Unescape.l0 (k + 1) (mk s) (ints out) (i : Int) = some (sizeU (unF (kk + 1) (s.drop i) out)) := by
  rw [motleyref02_Unescape.l0.eq_2, mk_size, if_neg (show ¬ (i : Int) < (s.length : Int) by omega), str_ints, rsized_eq, List.drop_of_length_le (by omega), unF_nil]
  rfl
def UnIH (s : List UInt8) (n : Nat) : Prop := ∀ (i k kk : Nat) (out : List UInt8), s.length - i ≤ n → i ≤ s.length → out.length ≤ 4 * i → 3 * n + 60 ≤ k → s.length - i < kk →
    motleyref02_Unescape.l0 k (mk s) (ints out) (i : Int) = some (sizeU (unF kk (s.drop i) out))
theorem Un_brace (s : List UInt8) (hs : s.length ≤ 4096) (n i k kk : Nat) (out : List UInt8) (ih : UnIH s n) (hlt : i < s.length) (hn : s.length - i ≤ n + 1) (ho : out.length ≤ 4 * i) (hk : 3 * n + 60 ≤ k) (hkk : s.length - i ≤ kk) (hp : Lib.hasPrefix (s.drop (i + 1)) [92] = false) :
    motleyref02_Unescape.j1 (k + 1) (mk s) (ints out) (i : Int) false = some (sizeU (unF (kk + 1) (92 :: s.drop (i + 1)) out)) := by
  rw [unF_esc, hp, if_neg (by decide), Un_j1 s hs i k out hlt (by omega) (by omega)]
  have hn2 := hexR_n (s.drop (i + 1))
  rw [List.drop_drop]
  generalize hexR (s.drop (i + 1)) = cn at *
  obtain ⟨c, m⟩ := cn
  simp only at hn2 ⊢
  by_cases h0 : m = 0
  · rw [if_pos h0, if_pos h0]; rfl
  · rw [if_neg h0, if_neg h0]
    rcases hn2 with hn2 | ⟨h4, h5, h6⟩
    · exact absurd hn2 h0
    · have hel := encodeRune_length c
      rw [List.length_drop] at h5
      exact ih _ k kk _ (by omega) (by omega) (by rw [List.length_append]; omega) (by omega) (by omega)
theorem w1 (i : Nat) (h : i ≤ 5000) : wrap64 ((i : Int) + 1) = ((i + 1 : Nat) : Int) := by rw [wrap64_id (by omega) (by omega)]; omega
theorem w2 (i : Nat) (h : i ≤ 5000) : wrap64 (((i + 1 : Nat) : Int) + 1) = ((i + 2 : Nat) : Int) := by rw [wrap64_id (by omega) (by omega)]; omega
theorem eq92 (c : UInt8) : (((c.toNat : Int)) == 92) = decide (c = 92) := by
  by_cases h : c = 92
  · subst h; rfl
  · rw [decide_eq_false h, beq_eq_false_iff_ne]
    have e : (92 : UInt8).toNat = 92 := rfl
    exact fun h' => h (UInt8.toNat_inj.1 (by rw [e]; omega))
theorem Un_bb (s : List UInt8) (hs : s.length ≤ 4096) (n i k kk : Nat) (out : List UInt8) (ih : UnIH s n) (hl2 : i + 1 < s.length) (hn : s.length - i ≤ n + 1) (ho : out.length ≤ 4 * i) (hk : 3 * n + 60 ≤ k) (hkk : s.length - i ≤ kk) (hp : Lib.hasPrefix (s.drop (i + 1)) [92] = true) :
    motleyref02_Unescape.j1 (k + 1) (mk s) (ints out) (i : Int) true = some (sizeU (unF (kk + 1) (92 :: s.drop (i + 1)) out)) := by
  have h := ih (i + 2) k kk (out ++ [92]) (by omega) (by omega) (by rw [List.length_append]; simp; omega) (by omega) (by omega)
  rw [ints_append] at h
  simp only [motleyref02_Unescape.j1]
  rw [if_pos trivial, if_pos (by rw [ints_length]; omega)]
  rw [unF_esc, hp, if_pos rfl, List.drop_drop]
  first | rw [w1 i (by omega), w2 i (by omega)] | rw [show wrap64 ((i : Int) + 2) = ((i + 2 : Nat) : Int) by rw [wrap64_id (by omega) (by omega)]; omega]
  exact h
theorem Un_step (s : List UInt8) (hs : s.length ≤ 4096) (n i k kk : Nat) (out : List UInt8) (ih : UnIH s n) (hlt : i < s.length) (hn : s.length - i ≤ n + 1) (ho : out.length ≤ 4 * i) (hk : 3 * n + 61 ≤ k) (hkk : s.length - i ≤ kk) :
    motleyref02_Unescape.l0 (k + 1) (mk s) (ints out) (i : Int) = some (sizeU (unF (kk + 1) (s.drop i) out)) := by
  obtain ⟨k, rfl⟩ : ∃ j, k = j + 1 := ⟨k - 1, by omega⟩
  rw [motleyref02_Unescape.l0.eq_2, mk_size, if_pos (show (i : Int) < (s.length : Int) by omega), if_pos (show (0 : Int) ≤ (i : Int) by omega), bt_at s i hlt, List.drop_eq_getElem_cons hlt, w1 i (by omega)]
  generalize s[i] = c
  by_cases h92 : c = 92
  · subst h92
    rw [if_pos (show (((92 : UInt8).toNat : Int)) = 92 by decide)]
    by_cases hl2 : i + 1 < s.length
    · rw [if_pos (show ((i + 1 : Nat) : Int) < (s.length : Int) by omega), if_pos (show (0 : Int) ≤ ((i + 1 : Nat) : Int) by omega), bt_at s (i + 1) hl2, eq92]
      have hpx : Lib.hasPrefix (s.drop (i + 1)) [92] = decide (s[i + 1] = 92) := by rw [List.drop_eq_getElem_cons hl2, pre92]
      by_cases h2 : s[i + 1] = 92
      · rw [decide_eq_true h2] at hpx ⊢
        exact Un_bb s hs n i k kk out ih hl2 hn ho (by omega) hkk hpx
      · rw [decide_eq_false h2] at hpx ⊢
        exact Un_brace s hs n i k kk out ih hlt hn ho (by omega) hkk hpx
    · rw [if_neg (show ¬ ((i + 1 : Nat) : Int) < (s.length : Int) by omega)]
      exact Un_brace s hs n i k kk out ih hlt hn ho (by omega) hkk (by rw [List.drop_of_length_le (by omega)]; rfl)
  · have h92i : ¬ ((c.toNat : Int)) = 92 := fun h => h92 (UInt8.toNat_inj.1 (by have e : (92 : UInt8).toNat = 92 := rfl; rw [e]; omega))
    have h := ih (i + 1) (k + 1) (kk + 1) (out ++ [c]) (by omega) (by omega) (by rw [List.length_append]; simp; omega) (by omega) (by omega)
    rw [ints_append] at h
    rw [if_neg h92i, if_pos (by rw [ints_length]; omega), unF_plain _ _ _ _ h92]
    exact h
theorem Un_l0 (s : List UInt8) (hs : s.length ≤ 4096) (n : Nat) : UnIH s n := by
  induction n with
  | zero =>
    intro i k kk out hn hi ho hk hkk
    obtain ⟨k, rfl⟩ : ∃ j, k = j + 1 := ⟨k - 1, by omega⟩
    obtain ⟨kk, rfl⟩ : ∃ j, kk = j + 1 := ⟨kk - 1, by omega⟩
    exact Un_end s i k kk out (by omega)
  | succ n ih =>
    intro i k kk out hn hi ho hk hkk
    obtain ⟨k, rfl⟩ : ∃ j, k = j + 1 := ⟨k - 1, by omega⟩
    obtain ⟨kk, rfl⟩ : ∃ j, kk = j + 1 := ⟨kk - 1, by omega⟩
    by_cases hlt : i < s.length
    · exact Un_step s hs n i k kk out ih hlt hn ho (by omega) (by omega)
    · exact Un_end s i k kk out (by omega)
theorem ask_check (s : ByteArray) : askI s = checkI s := by
  unfold askI checkI
  by_cases h : s.size > 4096
  · rw [if_pos (by omega), if_pos h]
  · rw [if_neg (by omega), if_neg h]
    by_cases h2 : valid s.data.toList = s.size
    · rw [if_pos (by omega), if_pos h2]
    · rw [if_neg (by omega), if_neg h2]
theorem rUn_eq (s : ByteArray) (k : Nat) (hk : 14000 ≤ k) : motleyref02_Unescape.f k s = some (unR s) := by
  unfold motleyref02_Unescape.f unR
  rw [Checked_eq s k (by omega), ask_check]
  simp only [Option.bind_some]
  by_cases h : checkI s = 0
  · rw [if_pos h, if_pos h]
    have h4 := (check0 h).1
    rw [size_len] at h4
    have := Un_l0 s.data.toList h4 s.data.toList.length 0 k (s.data.toList.length + 1) [] (by omega) (by omega) (by simp) (by omega) (by omega)
    rw [mk_of, List.drop_zero, ← size_len] at this
    exact this
  · rw [if_neg h, if_neg h]
theorem unF_back : ∀ (cs : List Int) (acc : List UInt8) (K : Nat), allChr cs → (mapL escU cs).length < K → unF K (mapL escU cs) acc = some (acc ++ enc cs)
  | [], acc, K, _, hK => by
    obtain ⟨K, rfl⟩ : ∃ j, K = j + 1 := ⟨K - 1, by omega⟩
    rw [show mapL escU [] = [] from rfl, unF_nil, enc_nil, List.append_nil]
  | c :: cs, acc, K, h, hK => by
    have hc := h c (by simp)
    rw [mapL_cons] at hK ⊢
    rw [List.length_append] at hK
    obtain ⟨k', hk', h2⟩ := unF_escU K c hc (mapL escU cs) acc
    rw [unF_fuel _ _ _ K (k' + 1) (Nat.le_refl _) (by rw [List.length_append]; omega) (by rw [List.length_append]; omega), h2, unF_fuel _ _ _ (K + 1) K (Nat.le_refl _) (by omega) (by omega), unF_back cs _ K (fun d hd => h d (by simp [hd])) (by omega), enc_cons, List.append_assoc]
theorem enc_ascii : ∀ (u : List UInt8), (∀ c ∈ u, c.toNat < 128) → enc (ints u) = u
  | [], _ => enc_nil
  | c :: u, h => by
    have hc := h c (by simp)
    show enc ((c.toNat : Int) :: ints u) = c :: u
    rw [enc_cons, enc_ascii u (fun d hd => h d (by simp [hd])), one_byte _ ⟨by omega, by omega⟩, Int.toNat_natCast]
    simp
theorem isH_small (c : UInt8) (h : isH c = true) : c.toNat < 128 := by
  simp only [isH, Bool.or_eq_true, Bool.and_eq_true, decide_eq_true_eq] at h
  omega
theorem escU_ascii (c : Int) (hc : chr c) : ∀ d ∈ escU c, d.toNat < 128 := by
  unfold escU
  by_cases h1 : c = 92
  · subst h1; rw [if_pos rfl]; decide
  · rw [if_neg h1]
    by_cases h2 : c < 32 ∨ 126 < c
    · rw [if_pos h2]
      have hb := (hexL_facts c.toNat (by unfold chr at hc; omega)).1
      intro d hd
      rw [List.mem_append, List.mem_append] at hd
      rcases hd with (hd | hd) | hd
      · have : ∀ x ∈ ([92, 120, 123] : List UInt8), x.toNat < 128 := by decide
        exact this d hd
      · exact isH_small d (List.all_eq_true.1 hb d hd)
      · have : ∀ x ∈ ([125] : List UInt8), x.toNat < 128 := by decide
        exact this d hd
    · rw [if_neg h2, one_byte c (by omega)]
      intro d hd
      rw [List.mem_singleton] at hd
      subst hd
      have : (UInt8.ofNat c.toNat).toNat = c.toNat % 256 := by simp
      omega
theorem map_ascii (cs : List Int) (h : allChr cs) : ∀ d ∈ mapL escU cs, d.toNat < 128 := by
  intro d hd
  unfold mapL at hd
  obtain ⟨c, hc, hd2⟩ := List.mem_flatMap.1 hd
  exact escU_ascii c (h c hc) d hd2
theorem back_eq (s : ByteArray) (h : (escR s).2 = 0) : unR (escR s).1 = (s, 0) := by
  unfold escR at h ⊢
  by_cases hc : checkI s = 0
  · rw [if_pos hc] at h ⊢
    generalize hu : mapL escU (runes s.data.toList) = u at *
    have hl : u.length ≤ 4096 := by
      unfold sizeR at h
      by_cases h2 : u.length > 4096
      · rw [if_pos h2] at h; cases h
      · omega
    rw [sizeR_small hl]
    have ha : ∀ d ∈ u, d.toNat < 128 := by rw [← hu]; exact map_ascii _ (runes_all _)
    have hck : checkI (mk u) = 0 := by
      have e := enc_ascii u ha
      have := check_enc (l := ints u) (fun c hcm => by
        unfold ints at hcm
        obtain ⟨b, hb, rfl⟩ := List.mem_map.1 hcm
        have := ha b hb
        unfold chr; omega) (by rw [e]; exact hl)
      rw [e] at this
      exact this
    unfold unR
    simp only
    rw [ask_check, hck, if_pos rfl, mk_size, mk_list, ← hu, unF_back _ _ _ (runes_all _) (by omega), List.nil_append]
    have e2 : (enc (runes s.data.toList)).length = s.size := by rw [← mk_size, enc_runes' hc]
    simp only [sizeU]
    rw [if_neg (by have := (check0 hc).1; omega)]
    exact congrArg (fun b : ByteArray => (b, (0 : Int))) (enc_runes' hc)
  · rw [if_neg hc] at h
    exact absurd h hc
end Go.Proofs.YtegapacamclipaaGreatDoor.Q
