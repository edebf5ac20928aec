/- The plain law of TapFormats: what it computes is true. -/
import Derived.Test.YtallfkecjibpmaaDoorPPad
import Derived.Test.YtallfkecjibpmaaDoorM3
set_option linter.unusedVariables false
set_option linter.unusedSimpArgs false
namespace Go.Proofs.YtallfkecjibpmaaDoor.Q
open Go.RowKit Go.Proofs.YtallfkecjibpmaaDoorW.PrintWords Go.Proofs.YtallfkecjibpmaaDoor.G Go.Proofs.YtallfkecjibpmaaDoor.M Go.Proofs.YtallfkecjibpmaaDoor.Cal Go.Proofs.YtallfkecjibpmaaDoor.Nm Go.Lib
theorem pad_int (x w : Int) (h0 : 0 ≤ x) (h1 : x ≤ 9223372036854775807) (w0 : 0 ≤ w) (w1 : w ≤ 10) : tap_pad.f x w = some (mk (Nm.pad w.toNat x.toNat)) := by
  have := pad_eq x.toNat w.toNat (by omega) (by omega)
  rw [Int.toNat_of_nonneg h0, Int.toNat_of_nonneg w0] at this
  exact this
theorem padded_int (x w : Int) (k : Nat) (hk : 200 ≤ k) (h0 : 0 ≤ x) (h1 : x ≤ 9223372036854775807) (w0 : 0 ≤ w) (w1 : w ≤ 10) : motleyref27_padded.f k x w = some (mk (Nm.pad w.toNat x.toNat)) := by
  have := padded_eq x.toNat w.toNat k (by omega) (by omega) hk
  rw [Int.toNat_of_nonneg h0, Int.toNat_of_nonneg w0] at this
  exact this
theorem pad_sz (x w : Int) (h0 : 0 ≤ x) (h1 : x ≤ 9223372036854775807) (w1 : w ≤ 10) : (mk (Nm.pad w.toNat x.toNat)).size ≤ 30 := by
  rw [mk_size]
  exact pad_len30 _ _ (by omega) (by omega)
theorem itoa_sz (x : Int) (h0 : -9223372036854775808 ≤ x) (h1 : x ≤ 9223372036854775807) : (mk (itoa x)).size ≤ 30 := by
  rw [mk_size]
  have := itoa_length_le x h0 h1
  omega
theorem Itoa_int (x : Int) (h0 : -9223372036854775808 ≤ x) (h1 : x ≤ 9223372036854775807) : strconv_Itoa.f x = some (mk (itoa x)) := by
  unfold strconv_Itoa.f
  rw [if_pos ⟨h0, h1⟩]
  rfl
theorem Written_int (x : Int) (h0 : -9223372036854775808 < x) (h1 : x ≤ 9223372036854775807) : motleyref01_Written.f x = some (mk (itoa x)) := by
  unfold motleyref01_Written.f
  rw [if_pos ⟨h0, h1⟩]
  rfl
theorem part_eq (ch sec : Int) (k : Nat) (hk : 200000 ≤ k) (h0 : -1152921504606846976 ≤ sec) (h1 : sec ≤ 1152921504606846976) (hd : -719162 ≤ sec / 86400 ∧ sec / 86400 < 2932897) :
    ∃ t, tap_part.f ch sec (sec / 86400) (sec % 86400 / 3600) (sec % 86400 / 60 % 60) (sec % 86400 % 60) = some t ∧ motleyref27_field.f k ch sec = some t ∧ t.size ≤ 30 := by
  unfold tap_part.f motleyref27_field.f
  rw [day_eq sec (by omega) (by omega)]
  simp only [Option.bind_some]
  rw [rDate_eq _ k hk, rWeek_eq _ k hk]
  obtain ⟨n, hn⟩ : ∃ n, sec / 86400 = n := ⟨_, rfl⟩
  rw [hn] at hd ⊢
  clear hn
  cases hw : tap_Week.f n with
  | none => exfalso; exact Week_none n hw
  | some v =>
  obtain ⟨a, b, c⟩ := v
  obtain ⟨b1, b2, b3, b4, b5⟩ := Week_bd n a b c hw
  have hr : 0 ≤ sec % 86400 ∧ sec % 86400 < 86400 := by omega
  generalize sec % 86400 = r at *
  unfold G.tap_Date.f
  rw [if_pos hd]
  obtain ⟨hD, hy⟩ := dateOf_is (n + 719162) (by omega) (by omega)
  obtain ⟨d1, d2, d3, d4, d5, d6⟩ := hD
  have hl := len_pos (dateOf (n + 719162)).1 1
  have hl2 := len_pos (dateOf (n + 719162)).1 (dateOf (n + 719162)).2.1
  have hm := in_month d2 d3 d4 d5 (y := (dateOf (n + 719162)).1)
  have hma := mon_all (dateOf (n + 719162)).1
  have hm1 := mon_one (dateOf (n + 719162)).1
  have hciv := civil_eq (dateOf (n + 719162)).1 1 d1 (by omega) (by omega) (by omega) k (by omega)
  have hday : G.tap_Days.f (dateOf (n + 719162)).1 1 1 = some (bef (dateOf (n + 719162)).1 + mon (dateOf (n + 719162)).1 1 - 719162, 0) := by
    unfold G.tap_Days.f
    rw [if_pos ⟨d1, hy, by omega, by omega, by omega, by omega⟩]
    congr 2
    omega
  have hf : 0 ≤ n - (bef (dateOf (n + 719162)).1 + mon (dateOf (n + 719162)).1 1 - 719162) ∧ n - (bef (dateOf (n + 719162)).1 + mon (dateOf (n + 719162)).1 1 - 719162) ≤ 366 := by omega
  have hu := Itoa_int sec (by omega) (by omega)
  have hv := Written_int sec (by omega) (by omega)
  have hz := itoa_sz sec (by omega) (by omega)
  generalize (dateOf (n + 719162)).1 = y at *
  generalize (dateOf (n + 719162)).2.1 = m at *
  generalize (dateOf (n + 719162)).2.2 = d at *
  generalize bef y + mon y 1 - 719162 = f at *
  simp only [Option.bind_some, hday]
  have q1 : Int.tdiv r 3600 = r / 3600 := Int.tdiv_eq_ediv_of_nonneg hr.1
  have q2 : Int.tdiv r 60 = r / 60 := Int.tdiv_eq_ediv_of_nonneg hr.1
  have q3 : Int.tmod r 60 = r % 60 := Int.tmod_eq_emod_of_nonneg hr.1
  have q4 : Int.tmod (r / 60) 60 = r / 60 % 60 := Int.tmod_eq_emod_of_nonneg (by omega)
  have q5 : Int.tmod y 100 = y % 100 := Int.tmod_eq_emod_of_nonneg (by omega)
  rw [q1, q2, q3, w64 (x := r / 3600) (by omega) (by omega), w64 (x := r / 60) (by omega) (by omega), q4, q5]
  by_cases c89 : ch = 89
  · rw [if_pos c89, if_pos c89, pad_int y 4 (by omega) (by omega) (by omega) (by omega), padded_int y 4 k (by omega) (by omega) (by omega) (by omega) (by omega)]
    exact ⟨_, rfl, rfl, pad_sz y 4 (by omega) (by omega) (by omega)⟩
  rw [if_neg c89, if_neg c89]
  by_cases c109 : ch = 109
  · rw [if_pos c109, if_pos c109, pad_int m 2 (by omega) (by omega) (by omega) (by omega), padded_int m 2 k (by omega) (by omega) (by omega) (by omega) (by omega)]
    exact ⟨_, rfl, rfl, pad_sz m 2 (by omega) (by omega) (by omega)⟩
  rw [if_neg c109, if_neg c109]
  by_cases c100 : ch = 100
  · rw [if_pos c100, if_pos c100, pad_int d 2 (by omega) (by omega) (by omega) (by omega), padded_int d 2 k (by omega) (by omega) (by omega) (by omega) (by omega)]
    exact ⟨_, rfl, rfl, pad_sz d 2 (by omega) (by omega) (by omega)⟩
  rw [if_neg c100, if_neg c100]
  by_cases c72 : ch = 72
  · rw [if_pos c72, if_pos c72, pad_int (r / 3600) 2 (by omega) (by omega) (by omega) (by omega), padded_int (r / 3600) 2 k (by omega) (by omega) (by omega) (by omega) (by omega)]
    exact ⟨_, rfl, rfl, pad_sz (r / 3600) 2 (by omega) (by omega) (by omega)⟩
  rw [if_neg c72, if_neg c72]
  by_cases c77 : ch = 77
  · rw [if_pos c77, if_pos c77, pad_int (r / 60 % 60) 2 (by omega) (by omega) (by omega) (by omega), padded_int (r / 60 % 60) 2 k (by omega) (by omega) (by omega) (by omega) (by omega)]
    exact ⟨_, rfl, rfl, pad_sz (r / 60 % 60) 2 (by omega) (by omega) (by omega)⟩
  rw [if_neg c77, if_neg c77]
  by_cases c83 : ch = 83
  · rw [if_pos c83, if_pos c83, pad_int (r % 60) 2 (by omega) (by omega) (by omega) (by omega), padded_int (r % 60) 2 k (by omega) (by omega) (by omega) (by omega) (by omega)]
    exact ⟨_, rfl, rfl, pad_sz (r % 60) 2 (by omega) (by omega) (by omega)⟩
  rw [if_neg c83, if_neg c83]
  by_cases c106 : ch = 106
  · rw [if_pos c106, if_pos c106, hciv]
    simp only [Option.bind_some]
    rw [w64 (x := n - f) (by omega) (by omega), w64 (x := n - f + 1) (by omega) (by omega), pad_int (n - f + 1) 3 (by omega) (by omega) (by omega) (by omega), padded_int (n - f + 1) 3 k (by omega) (by omega) (by omega) (by omega) (by omega)]
    exact ⟨_, rfl, rfl, pad_sz (n - f + 1) 3 (by omega) (by omega) (by omega)⟩
  rw [if_neg c106, if_neg c106]
  by_cases c121 : ch = 121
  · rw [if_pos c121, if_pos c121, pad_int (y % 100) 2 (by omega) (by omega) (by omega) (by omega), padded_int (y % 100) 2 k (by omega) (by omega) (by omega) (by omega) (by omega)]
    exact ⟨_, rfl, rfl, pad_sz (y % 100) 2 (by omega) (by omega) (by omega)⟩
  rw [if_neg c121, if_neg c121]
  by_cases c117 : ch = 117
  · rw [if_pos c117, if_pos c117, weekday_eq n (by omega) (by omega), w64 (x := n + 3) (by omega) (by omega), modulo_eq (n + 3) 7 (by omega) (by omega) (by omega) (by omega)]
    simp only [Option.bind_some]
    rw [w64 (x := (n + 4) % 7 + 6) (by omega) (by omega), Int.tmod_eq_emod_of_nonneg (by omega), show ((n + 4) % 7 + 6) % 7 = (n + 3) % 7 by omega, w64 (x := (n + 3) % 7 + 1) (by omega) (by omega), Itoa_int _ (by omega) (by omega), Written_int _ (by omega) (by omega)]
    exact ⟨_, rfl, rfl, itoa_sz _ (by omega) (by omega)⟩
  rw [if_neg c117, if_neg c117]
  by_cases c71 : ch = 71
  · rw [if_pos c71, if_pos c71, pad_int a 4 (by omega) (by omega) (by omega) (by omega), padded_int a 4 k (by omega) (by omega) (by omega) (by omega) (by omega)]
    exact ⟨_, rfl, rfl, pad_sz a 4 (by omega) (by omega) (by omega)⟩
  rw [if_neg c71, if_neg c71]
  by_cases c86 : ch = 86
  · rw [if_pos c86, if_pos c86, pad_int b 2 (by omega) (by omega) (by omega) (by omega), padded_int b 2 k (by omega) (by omega) (by omega) (by omega) (by omega)]
    exact ⟨_, rfl, rfl, pad_sz b 2 (by omega) (by omega) (by omega)⟩
  rw [if_neg c86, if_neg c86]
  by_cases c115 : ch = 115
  · rw [if_pos c115, if_pos c115, hu, hv]
    exact ⟨_, rfl, rfl, hz⟩
  rw [if_neg c115, if_neg c115]
  exact ⟨_, rfl, rfl, by decide⟩
/-- The letters of a pattern. -/
def isL (c : UInt8) : Bool := [89, 109, 100, 72, 77, 83, 106, 121, 117, 71, 86, 115, 37].contains c
def isW (c : UInt8) : Bool := [71, 86].contains c
def allFrom (p : Nat → Bool) : Nat → Nat → Bool
  | 0, _ => true
  | n + 1, i => p i && allFrom p n (i + 1)
theorem allFrom_at (p : Nat → Bool) : ∀ (n i j : Nat), allFrom p n i = true → i ≤ j → j < i + n → p j = true
  | 0, i, j, _, h1, h2 => by omega
  | n + 1, i, j, h, h1, h2 => by
    unfold allFrom at h
    rw [Bool.and_eq_true] at h
    rcases Nat.eq_or_lt_of_le h1 with rfl | h3
    · exact h.1
    · exact allFrom_at p n (i + 1) j h.2 h3 (by omega)
def lettersB : ByteArray := ⟨#[89, 109, 100, 72, 77, 83, 106, 121, 117, 71, 86, 115, 37]⟩
def letOK (i : Nat) : Bool := decide (motleyref27_in.f 20 lettersB (i : Int) = some (isL (UInt8.ofNat i))) && decide (motleyref27_in.f 20 (⟨#[71, 86]⟩ : ByteArray) (i : Int) = some (isW (UInt8.ofNat i))) && (decide (0 ≤ Lib.indexByte lettersB.data.toList (UInt8.ofNat i)) == isL (UInt8.ofNat i)) && (isW (UInt8.ofNat i) == (decide (i = 71) || decide (i = 86)))
set_option maxRecDepth 100000 in
theorem letOK_all : allFrom letOK 256 0 = true := by decide +kernel
theorem let_at (c : UInt8) : motleyref27_in.f 20 lettersB (c.toNat : Int) = some (isL c) ∧ motleyref27_in.f 20 (⟨#[71, 86]⟩ : ByteArray) (c.toNat : Int) = some (isW c) ∧ (decide (0 ≤ Lib.indexByte lettersB.data.toList c) = isL c) ∧ isW c = (decide (c.toNat = 71) || decide (c.toNat = 86)) := by
  have h := allFrom_at letOK 256 0 c.toNat letOK_all (by omega) (by have := c.toNat_lt; omega)
  unfold letOK at h
  rw [show UInt8.ofNat c.toNat = c from UInt8.ofNat_toNat] at h
  simp only [Bool.and_eq_true, decide_eq_true_eq, beq_iff_eq] at h
  exact ⟨h.1.1.1, h.1.1.2, h.1.2, h.2⟩
theorem in_letters (c : UInt8) (k : Nat) (hk : 20 ≤ k) : motleyref27_in.f k (⟨#[89, 109, 100, 72, 77, 83, 106, 121, 117, 71, 86, 115, 37]⟩ : ByteArray) (c.toNat : Int) = some (isL c) := at_rounds (motleyref27_in.mono _ _) hk (let_at c).1
theorem in_weeks (c : UInt8) (k : Nat) (hk : 20 ≤ k) : motleyref27_in.f k (⟨#[71, 86]⟩ : ByteArray) (c.toNat : Int) = some (isW c) := at_rounds (motleyref27_in.mono _ _) hk (let_at c).2.1
theorem contains_letters (c : UInt8) : strings_Contains.f (⟨#[89, 109, 100, 72, 77, 83, 106, 121, 117, 71, 86, 115, 37]⟩ : ByteArray) (mk [c]) = some (isL c) := by
  unfold strings_Contains.f
  rw [mk_list]
  exact congrArg some (let_at c).2.2.1
/-- Whether a pattern has weeks; none: it is no pattern. -/
def scan : List UInt8 → Bool → Option Bool
  | [], w => some w
  | c :: r, w => if c = 37 then (match r with
    | [] => none
    | d :: r => if isL d then scan r (w || isW d) else none) else scan r w
def outp (f : UInt8 → List UInt8) : List UInt8 → List UInt8
  | [] => []
  | c :: r => if c = 37 then (match r with
    | [] => []
    | d :: r => f d ++ outp f r) else c :: outp f r
theorem scan_nil (w : Bool) : scan [] w = some w := rfl
theorem outp_nil (f : UInt8 → List UInt8) : outp f [] = [] := rfl
theorem scan_c (c : UInt8) (r : List UInt8) (w : Bool) (h : c ≠ 37) : scan (c :: r) w = scan r w := by rw [scan.eq_def]; simp only [if_neg h]
theorem scan_e (w : Bool) : scan [37] w = none := by rw [scan.eq_def]; rfl
theorem scan_p (d : UInt8) (r : List UInt8) (w : Bool) : scan (37 :: d :: r) w = if isL d = true then scan r (w || isW d) else none := by rw [scan.eq_def]; rfl
theorem outp_c (f : UInt8 → List UInt8) (c : UInt8) (r : List UInt8) (h : c ≠ 37) : outp f (c :: r) = c :: outp f r := by rw [outp.eq_def]; simp only [if_neg h]
theorem outp_p (f : UInt8 → List UInt8) (d : UInt8) (r : List UInt8) : outp f (37 :: d :: r) = f d ++ outp f r := by rw [outp.eq_def]; rfl
theorem bt_getD (s : ByteArray) (i : Nat) : bt s (i : Int) = ((s.data.toList.getD i 0).toNat : Int) := by
  unfold bt
  rw [Int.toNat_natCast]
  split
  case isTrue h =>
    have h' : i < s.data.toList.length := by rw [← size_len]; exact h
    rw [List.getD_eq_getElem?_getD, List.getElem?_eq_getElem h']
    rfl
  case isFalse h =>
    have h' : s.data.toList.length ≤ i := by rw [← size_len]; omega
    rw [List.getD_eq_getElem?_getD, List.getElem?_eq_none h']
    rfl


theorem drop_b (s : ByteArray) (i : Nat) (h : i < s.size) : s.data.toList.drop i = s.data.toList.getD i 0 :: s.data.toList.drop (i + 1) := by
  have h' : i < s.data.toList.length := by rw [← size_len]; exact h
  rw [List.getD_eq_getElem?_getD, List.getElem?_eq_getElem h']
  exact List.drop_eq_getElem_cons h'
theorem ext_one (s : ByteArray) (i : Nat) (h : i < s.size) : s.extract i (i + 1) = mk [s.data.toList.getD i 0] := by
  apply ba_ext
  rw [Lib.extract_data, mk_list, drop_b s i h, show i + 1 - i = 1 by omega]
  rfl
theorem is37 (c : UInt8) : ((c.toNat : Int) = 37) ↔ c = 37 := by
  constructor
  · intro h
    exact UInt8.toNat_inj.1 (by have h2 : (37 : UInt8).toNat = 37 := rfl; omega)
  · intro h; subst h; rfl
def finR (fin : Bool → ByteArray × Int) : Option Bool → ByteArray × Int
  | none => (⟨#[]⟩, 2)
  | some w => fin w
theorem rFormat_l0 (s : ByteArray) (hs : s.size ≤ 200) (sec : Int) (fin : Bool → ByteArray × Int) (K : Nat) (R : Option Bool) (hfin : ∀ w, R = some w → ∀ k, K ≤ k → motleyref27_Format.l0 k s sec w (s.size : Int) = some (fin w)) :
    ∀ (d i k : Nat) (w : Bool), i ≤ s.size → s.size - i ≤ d → K + d + 25 ≤ k → scan (s.data.toList.drop i) w = R → motleyref27_Format.l0 k s sec w (i : Int) = some (finR fin R)
  | d, i, k, w, hi, hd, hk, hR => by
    by_cases h : i < s.size
    case neg =>
      obtain rfl : i = s.size := by omega
      rw [List.drop_of_length_le (by rw [← size_len]; omega), scan_nil] at hR
      rw [← hR]
      exact hfin w hR.symm k (by omega)
    obtain ⟨k, rfl⟩ : ∃ j, k = j + 1 := ⟨k - 1, by omega⟩
    cases d with
    | zero => omega
    | succ d =>
    have e1 : Aside0 (wrap64 ((i : Int) + 1) = ((i + 1 : Nat) : Int)) := ⟨by rw [w64 (by omega) (by omega)]; omega⟩
    have e2 : Aside0 (wrap64 (((i + 1 : Nat) : Int) + 1) = ((i + 2 : Nat) : Int)) := ⟨by rw [w64 (by omega) (by omega)]; omega⟩
    rw [drop_b s i h] at hR
    simp only [motleyref27_Format.l0]
    rw [if_pos (by omega), if_pos (by omega), bt_getD, e1.out, bt_getD, e2.out]
    generalize s.data.toList.getD i 0 = c at *
    by_cases hc : c = 37
    case neg =>
      rw [scan_c _ _ _ hc] at hR
      rw [if_neg (fun h => hc ((is37 c).1 h))]
      exact rFormat_l0 s hs sec fin K R hfin d (i + 1) k w (by omega) (by omega) (by omega) hR
    subst hc
    rw [if_pos (show (((37 : UInt8).toNat : Nat) : Int) = 37 from rfl)]
    by_cases h2 : i + 1 < s.size
    case neg =>
      rw [List.drop_of_length_le (by rw [← size_len]; omega), scan_e] at hR
      rw [if_pos (by omega), ← hR]
      rfl
    rw [drop_b s (i + 1) h2, scan_p] at hR
    rw [if_neg (by omega), if_pos (by omega), if_pos (by omega)]
    generalize s.data.toList.getD (i + 1) 0 = c at *
    rw [in_letters c k (by omega), in_weeks c k (by omega)]
    simp only [Option.bind_some]
    cases hl : isL c with
    | false =>
      rw [hl, if_neg (by simp)] at hR
      rw [if_neg (by simp), ← hR]
      rfl
    | true =>
      rw [hl, if_pos rfl] at hR
      rw [if_pos rfl]
      cases w with
      | true =>
        rw [Bool.true_or] at hR
        rw [if_pos rfl]
        exact rFormat_l0 s hs sec fin K R hfin d (i + 2) k true (by omega) (by omega) (by omega) hR
      | false =>
        rw [Bool.false_or] at hR
        rw [if_neg (by simp)]
        exact rFormat_l0 s hs sec fin K R hfin d (i + 2) k (isW c) (by omega) (by omega) (by omega) hR
theorem rFormat_l1 (F : Nat) (hF : 200025 ≤ F) (s : ByteArray) (hs : s.size ≤ 200) (sec : Int) (P : UInt8 → List UInt8) (hP : ∀ c : UInt8, (∀ k, 200000 ≤ k → motleyref27_field.f k (c.toNat : Int) sec = some (mk (P c))) ∧ (P c).length ≤ 30) :
    ∀ (d i k : Nat) (out : List UInt8) (w : Bool), i ≤ s.size → s.size - i ≤ d → d + F ≤ k → out.length ≤ 31 * i → scan (s.data.toList.drop i) w ≠ none →
      motleyref27_Format.l1 k s sec (mk out) (i : Int) = some (mk (out ++ outp P (s.data.toList.drop i)), 0)
  | d, i, k, out, w, hi, hd, hk, ho, hsc => by
    obtain ⟨k, rfl⟩ : ∃ j, k = j + 1 := ⟨k - 1, by omega⟩
    simp only [motleyref27_Format.l1]
    by_cases h : i < s.size
    case neg =>
      rw [if_neg (by omega), List.drop_of_length_le (by rw [← size_len]; omega), outp_nil, List.append_nil]
    cases d with
    | zero => omega
    | succ d =>
    have e1 : Aside0 (wrap64 ((i : Int) + 1) = ((i + 1 : Nat) : Int)) := ⟨by rw [w64 (by omega) (by omega)]; omega⟩
    have e2 : Aside0 (wrap64 (((i + 1 : Nat) : Int) + 1) = ((i + 2 : Nat) : Int)) := ⟨by rw [w64 (by omega) (by omega)]; omega⟩
    rw [drop_b s i h] at hsc ⊢
    rw [if_pos (by omega), if_pos (by omega), bt_getD, e1.out, bt_getD, e2.out, Int.toNat_natCast, Int.toNat_natCast, ext_one s i h]
    generalize s.data.toList.getD i 0 = c at *
    by_cases hc : c = 37
    case neg =>
      rw [scan_c _ _ _ hc] at hsc
      rw [if_neg (fun h => hc ((is37 c).1 h)), if_pos (by omega), if_pos (by omega), if_pos (by rw [mk_size, mk_size]; simp only [List.length_singleton]; omega), mk_cat, outp_c _ _ _ hc,
        rFormat_l1 F hF s hs sec P hP d (i + 1) k _ w (by omega) (by omega) (by omega) (by simp only [List.length_append, List.length_singleton]; omega) hsc, List.append_assoc]
      rfl
    subst hc
    rw [if_pos (show (((37 : UInt8).toNat : Nat) : Int) = 37 from rfl)]
    by_cases h2 : i + 1 < s.size
    case neg =>
      exfalso
      rw [List.drop_of_length_le (by rw [← size_len]; omega), scan_e] at hsc
      exact hsc rfl
    rw [drop_b s (i + 1) h2, scan_p] at hsc
    rw [drop_b s (i + 1) h2, outp_p]
    generalize s.data.toList.getD (i + 1) 0 = c at *
    obtain ⟨p1, p2⟩ := hP c
    rw [if_pos (by omega), if_pos (by omega), p1 k (by omega)]
    simp only [Option.bind_some]
    cases hl : isL c with
    | false => rw [hl, if_neg (by simp)] at hsc; exact absurd rfl hsc
    | true =>
      rw [hl, if_pos rfl] at hsc
      rw [if_pos (by rw [mk_size, mk_size]; omega), mk_cat, rFormat_l1 F hF s hs sec P hP d (i + 2) k _ _ (by omega) (by omega) (by omega) (by simp only [List.length_append]; omega) hsc, List.append_assoc]
def tRes (ok : Bool) (c : Int) (out : List UInt8) : Option Bool → ByteArray × Int
  | none => (⟨#[]⟩, 2)
  | some w => if ok = true then (if w = true then (if c = 0 then (mk out, 0) else (⟨#[]⟩, 1)) else (mk out, 0)) else (⟨#[]⟩, 1)
theorem tFormat_l0 (s : ByteArray) (hs : s.size ≤ 200) (sec days c0 c1 c2 a b c : Int) (hw : tap_Week.f days = some (a, b, c)) (ok : Bool) (P : UInt8 → List UInt8) (hP : ok = true → ∀ x : UInt8, tap_part.f (x.toNat : Int) sec days c0 c1 c2 = some (mk (P x)) ∧ (P x).length ≤ 30) :
    ∀ (d i k : Nat) (out : List UInt8) (w : Bool), i ≤ s.size → s.size - i ≤ d → 2 * d + 10 ≤ k → out.length ≤ 31 * i →
      tap_Format.l0 k s sec days ok (mk out) w (i : Int) c0 c1 c2 = some (tRes ok c (if ok = true then out ++ outp P (s.data.toList.drop i) else []) (scan (s.data.toList.drop i) w))
  | d, i, k, out, w, hi, hd, hk, ho => by
    obtain ⟨k, rfl⟩ : ∃ j, k = j + 2 := ⟨k - 2, by omega⟩
    by_cases h : i < s.size
    case neg =>
      simp only [tap_Format.l0]
      rw [if_neg (by omega), List.drop_of_length_le (by rw [← size_len]; omega), hw, outp_nil, scan_nil]
      simp only [Option.bind_some, List.append_nil, tRes]
      cases ok <;> cases w <;> simp only [if_true, if_false, Bool.false_eq_true]
      split <;> rfl
    cases d with
    | zero => omega
    | succ d =>
    have e1 : Aside0 (wrap64 ((i : Int) + 1) = ((i + 1 : Nat) : Int)) := ⟨by rw [w64 (by omega) (by omega)]; omega⟩
    have e2 : Aside0 (wrap64 (((i + 1 : Nat) : Int) + 1) = ((i + 2 : Nat) : Int)) := ⟨by rw [w64 (by omega) (by omega)]; omega⟩
    rw [tap_Format.l0, if_pos (by omega), if_pos (by omega), bt_getD, e1.out, e2.out, Int.toNat_natCast, Int.toNat_natCast, Int.toNat_natCast, ext_one s i h, drop_b s i h]
    generalize s.data.toList.getD i 0 = c at *
    by_cases hc : c = 37
    case neg =>
      rw [if_neg (fun h => hc ((is37 c).1 h)), if_pos (by omega), if_pos (by omega), if_pos (by rw [mk_size, mk_size]; simp only [List.length_singleton]; omega), mk_cat, outp_c _ _ _ hc, scan_c _ _ _ hc,
        tFormat_l0 s hs sec days c0 c1 c2 a b _ hw ok P hP d (i + 1) (k + 1) _ w (by omega) (by omega) (by omega) (by simp only [List.length_append, List.length_singleton]; omega), List.append_assoc]
      rfl
    subst hc
    rw [if_pos (show (((37 : UInt8).toNat : Nat) : Int) = 37 from rfl)]
    by_cases h2 : i + 1 < s.size
    case neg =>
      rw [if_pos (by omega), List.drop_of_length_le (by rw [← size_len]; omega), tap_Format.j1, if_pos rfl, scan_e]
      rfl
    rw [if_neg (by omega), if_pos (by omega), if_pos (by omega), if_pos (by omega), ext_one s (i + 1) h2, contains_letters]
    simp only [Option.bind_some]
    rw [tap_Format.j1, bt_getD, e2.out, drop_b s (i + 1) h2, outp_p, scan_p]
    generalize s.data.toList.getD (i + 1) 0 = x at *
    cases hl : isL x with
    | false =>
      rw [if_pos (show (!false) = true from rfl)]
      rfl
    | true =>
      have ih := fun out w ho => tFormat_l0 s hs sec days c0 c1 c2 a b c hw ok P hP d (i + 2) k out w (by omega) (by omega) (by omega) ho
      have hwk := (let_at x).2.2.2
      rw [if_neg (by simp)]
      simp only [if_true]
      have go : ∀ w', (if ok = true then ((tap_part.f (x.toNat : Int) sec days c0 c1 c2).bind fun t => (if (mk out).size + t.size ≤ 9223372036854775807 then (tap_Format.l0 k s sec days ok (mk out ++ t) w' ((i + 2 : Nat) : Int) c0 c1 c2) else (none))) else (tap_Format.l0 k s sec days ok (mk out) w' ((i + 2 : Nat) : Int) c0 c1 c2)) = some (tRes ok c (if ok = true then out ++ (P x ++ outp P (s.data.toList.drop (i + 1 + 1))) else []) (scan (s.data.toList.drop (i + 1 + 1)) w')) := by
        intro w'
        cases ok with
        | false =>
          rw [if_neg (by simp), ih out w' (by omega), if_neg (by simp), if_neg (by simp)]
        | true =>
          obtain ⟨p1, p2⟩ := hP rfl x
          rw [if_pos rfl, p1]
          simp only [Option.bind_some]
          rw [if_pos (by rw [mk_size, mk_size]; omega), mk_cat, ih _ w' (by simp only [List.length_append]; omega)]
          simp only [if_true, List.append_assoc]
      cases w with
      | true =>
        rw [if_pos rfl, Bool.true_or]
        have g := go true
        cases ok with
        | false =>
          rw [if_neg (by simp)] at g ⊢
          exact g
        | true =>
          rw [if_pos rfl] at g ⊢
          rw [if_pos (by omega), if_pos (by omega)]
          exact g
      | false =>
        rw [if_neg (by simp), if_pos (by omega), if_pos (by omega), Bool.false_or]
        by_cases h71 : ((x.toNat : Nat) : Int) = 71
        · rw [if_pos h71]
          have hx : isW x = true := by rw [hwk, decide_eq_true (show x.toNat = 71 by omega)]; rfl
          rw [hx]
          exact go true
        · rw [if_neg h71]
          have hx : isW x = (((x.toNat : Nat) : Int) == 86) := by
            rw [hwk, decide_eq_false (show ¬ x.toNat = 71 by omega), Bool.false_or]
            by_cases h86 : x.toNat = 86
            · rw [decide_eq_true h86, h86]; rfl
            · rw [decide_eq_false h86]
              symm
              rw [beq_eq_false_iff_ne]
              omega
          rw [hx]
          exact go _

/-- A moment, written. -/
def stampL (y m d r : Int) : List UInt8 := Nm.pad 4 y.toNat ++ ([45] ++ (Nm.pad 2 m.toNat ++ ([45] ++ (Nm.pad 2 d.toNat ++ ([84] ++ (Nm.pad 2 (r / 3600).toNat ++ ([58] ++ (Nm.pad 2 (r / 60 % 60).toNat ++ ([58] ++ (Nm.pad 2 (r % 60).toNat ++ [90]))))))))))
def inY (sec : Int) : Bool := decide (-719162 ≤ sec / 86400 ∧ sec / 86400 < 2932897)
def dateS (sec : Int) : Int × Int × Int := dateOf (sec / 86400 + 719162)
def stampR (sec : Int) : ByteArray × Int := if inY sec = true then (mk (stampL (dateS sec).1 (dateS sec).2.1 (dateS sec).2.2 (sec % 86400)), 0) else (⟨#[]⟩, 1)
theorem rStamp_eq (sec : Int) (k : Nat) (hk : 200001 ≤ k) : motleyref27_Stamp.f k sec = some (stampR sec) := by
  obtain ⟨k, rfl⟩ : ∃ j, k = j + 1 := ⟨k - 1, by omega⟩
  unfold motleyref27_Stamp.f stampR inY
  by_cases h1 : sec < -1152921504606846976
  · rw [if_pos h1, motleyref27_Stamp.j0, if_pos rfl, if_neg (by simp; omega)]
  rw [if_neg h1, motleyref27_Stamp.j0]
  by_cases h2 : sec > 1152921504606846976
  · rw [if_pos (by simpa using h2), if_neg (by simp; omega)]
  rw [if_neg (by simpa using h2), day_eq sec (by omega) (by omega)]
  simp only [Option.bind_some]
  rw [rDate_eq _ k (by omega)]
  unfold G.tap_Date.f dateS
  by_cases hd : -719162 ≤ sec / 86400 ∧ sec / 86400 < 2932897
  case neg =>
    rw [if_neg hd, if_neg (by simpa using hd)]
    rfl
  rw [if_pos hd, if_pos (by simpa using hd)]
  obtain ⟨n, hn⟩ : ∃ n, sec / 86400 = n := ⟨_, rfl⟩
  rw [hn] at hd ⊢
  clear hn
  obtain ⟨hD, hy⟩ := dateOf_is (n + 719162) (by omega) (by omega)
  obtain ⟨d1, d2, d3, d4, d5, d6⟩ := hD
  have hl2 := len_pos (dateOf (n + 719162)).1 (dateOf (n + 719162)).2.1
  have hr : 0 ≤ sec % 86400 ∧ sec % 86400 < 86400 := by omega
  generalize sec % 86400 = r at *
  clear h1 h2
  generalize (dateOf (n + 719162)).1 = y at *
  generalize (dateOf (n + 719162)).2.1 = m at *
  generalize (dateOf (n + 719162)).2.2 = d at *
  simp only [Option.bind_some, if_true]
  rw [Int.tdiv_eq_ediv_of_nonneg hr.1, Int.tdiv_eq_ediv_of_nonneg hr.1, Int.tmod_eq_emod_of_nonneg hr.1, w64 (x := r / 3600) (by omega) (by omega), w64 (x := r / 60) (by omega) (by omega), Int.tmod_eq_emod_of_nonneg (show 0 ≤ r / 60 by omega)]
  rw [padded_int y 4 k (by omega) (by omega) (by omega) (by omega) (by omega), padded_int m 2 k (by omega) (by omega) (by omega) (by omega) (by omega), padded_int d 2 k (by omega) (by omega) (by omega) (by omega) (by omega), padded_int (r / 3600) 2 k (by omega) (by omega) (by omega) (by omega) (by omega), padded_int (r / 60 % 60) 2 k (by omega) (by omega) (by omega) (by omega) (by omega), padded_int (r % 60) 2 k (by omega) (by omega) (by omega) (by omega) (by omega)]
  simp only [Option.bind_some]
  have z1 := pad_len30 y.toNat 4 (by omega) (by omega)
  have z2 := pad_len30 m.toNat 2 (by omega) (by omega)
  have z3 := pad_len30 d.toNat 2 (by omega) (by omega)
  have z4 := pad_len30 (r / 3600).toNat 2 (by omega) (by omega)
  have z5 := pad_len30 (r / 60 % 60).toNat 2 (by omega) (by omega)
  have z6 := pad_len30 (r % 60).toNat 2 (by omega) (by omega)
  rw [show Int.toNat 4 = 4 from rfl, show Int.toNat 2 = 2 from rfl]
  unfold stampL
  generalize Nm.pad 4 y.toNat = p1 at *
  generalize Nm.pad 2 m.toNat = p2 at *
  generalize Nm.pad 2 d.toNat = p3 at *
  generalize Nm.pad 2 (r / 3600).toNat = p4 at *
  generalize Nm.pad 2 (r / 60 % 60).toNat = p5 at *
  generalize Nm.pad 2 (r % 60).toNat = p6 at *
  simp only [show (⟨#[45]⟩ : ByteArray) = mk [45] from rfl, show (⟨#[84]⟩ : ByteArray) = mk [84] from rfl, show (⟨#[58]⟩ : ByteArray) = mk [58] from rfl, show (⟨#[90]⟩ : ByteArray) = mk [90] from rfl, mk_cat, mk_size, List.length_append, List.length_singleton, List.append_assoc]
  repeat rw [if_pos (by omega)]
theorem Formats_eq (s : ByteArray) (sec : Int) (h0 : -9223372036854775808 ≤ sec) (h1 : sec ≤ 9223372036854775807) (k : Nat) (hk : 1000000 ≤ k) :
    ∃ r, motleyref27_Format.f k s sec = some r ∧ tap_Format.f k s sec = some r := by
  unfold motleyref27_Format.f tap_Format.f
  by_cases hs : s.size > 200
  · rw [if_pos (by omega), if_pos (by omega)]
    exact ⟨_, rfl, rfl⟩
  rw [if_neg (by omega), if_neg (by omega), clock_eq sec h0 h1]
  simp only [Option.bind_some]
  obtain ⟨a, b, c, hw⟩ := Week_some (sec / 86400)
  obtain ⟨b1, b2, b3, b4, b5⟩ := Week_bd _ a b c hw
  have key : inY sec = true → ∀ x : UInt8, ∃ l : List UInt8, tap_part.f (x.toNat : Int) sec (sec / 86400) (sec % 86400 / 3600) (sec % 86400 / 60 % 60) (sec % 86400 % 60) = some (mk l) ∧ (∀ k, 200000 ≤ k → motleyref27_field.f k (x.toNat : Int) sec = some (mk l)) ∧ l.length ≤ 30 := by
    intro hin x
    have hd : -719162 ≤ sec / 86400 ∧ sec / 86400 < 2932897 := by unfold inY at hin; simpa using hin
    obtain ⟨t, ht, _, hz⟩ := part_eq (x.toNat : Int) sec 200000 (by omega) (by omega) (by omega) hd
    refine ⟨t.data.toList, by rw [ht, mk_of], fun k hk => ?_, by rw [← size_len]; exact hz⟩
    obtain ⟨t', ht', hf, _⟩ := part_eq (x.toNat : Int) sec k hk (by omega) (by omega) hd
    rw [ht] at ht'
    cases ht'
    rw [hf, mk_of]
  obtain ⟨P, hP⟩ : ∃ P : UInt8 → List UInt8, inY sec = true → ∀ x : UInt8, tap_part.f (x.toNat : Int) sec (sec / 86400) (sec % 86400 / 3600) (sec % 86400 / 60 % 60) (sec % 86400 % 60) = some (mk (P x)) ∧ (∀ k, 200000 ≤ k → motleyref27_field.f k (x.toNat : Int) sec = some (mk (P x))) ∧ (P x).length ≤ 30 := by
    by_cases hin : inY sec = true
    · obtain ⟨f, hf⟩ := Classical.axiomOfChoice (key hin)
      exact ⟨f, fun _ => hf⟩
    · exact ⟨fun _ => [], fun h => absurd h hin⟩
  have hin : decide (-719162 ≤ sec / 86400 ∧ sec / 86400 < 2932897) = inY sec := rfl
  rw [hin]
  have tt := tFormat_l0 s (by omega) sec (sec / 86400) (sec % 86400 / 3600) (sec % 86400 / 60 % 60) (sec % 86400 % 60) a b c hw (inY sec) P (fun h x => by
    obtain ⟨h1, _, h3⟩ := hP h x
    exact ⟨h1, h3⟩) s.size 0 k [] false (by omega) (by omega) (by omega) (by simp)
  rw [show ((0 : Nat) : Int) = 0 from rfl, List.drop_zero] at tt
  refine ⟨_, ?_, tt⟩
  obtain ⟨R, hR⟩ : ∃ R, scan s.data.toList false = R := ⟨_, rfl⟩
  have rr := fun fin hf => rFormat_l0 s (by omega) sec fin 600000 R hf s.size 0 k false (by omega) (by omega) (by omega) (by rw [List.drop_zero]; exact hR)
  rw [show ((0 : Nat) : Int) = 0 from rfl] at rr
  rw [hR]
  cases R with
  | none => exact rr (fun _ => (⟨#[]⟩, 2)) (fun w h => by cases h)
  | some w =>
    refine rr (fun w => tRes (inY sec) c (if inY sec = true then [] ++ outp P s.data.toList else []) (some w)) (fun w' h k hk => ?_)
    cases h
    obtain ⟨k, rfl⟩ : ∃ j, k = j + 2 := ⟨k - 2, by omega⟩
    simp only [motleyref27_Format.l0]
    rw [if_neg (by omega), rStamp_eq sec (k + 1) (by omega)]
    simp only [Option.bind_some]
    unfold stampR
    cases hy : inY sec with
    | false => 
      rw [if_neg (by simp), if_neg (by decide)]
      rfl
    | true =>
      have hd : -719162 ≤ sec / 86400 ∧ sec / 86400 < 2932897 := by unfold inY at hy; simpa using hy
      have hl1 := rFormat_l1 200025 (by omega) s (by omega) sec P (fun x => by
        obtain ⟨_, h2, h3⟩ := hP hy x
        exact ⟨h2, h3⟩) s.size 0 k [] false (by omega) (by omega) (by omega) (by simp) (by rw [List.drop_zero, hR]; simp)
      rw [show ((0 : Nat) : Int) = 0 from rfl, List.drop_zero] at hl1
      have hm : (⟨#[]⟩ : ByteArray) = mk [] := rfl
      rw [if_pos rfl]
      simp only [if_true]
      rw [day_eq sec (by omega) (by omega)]
      simp only [Option.bind_some]
      rw [rWeek_eq _ (k + 1) (by omega), hw]
      simp only [Option.bind_some, motleyref27_Format.j1]
      rw [hm, hl1]
      simp only [tRes, if_true]
      rcases b5 with hc | hc
      · subst hc
        cases w <;> simp
      · subst hc
        cases w <;> simp
        rfl
end Go.Proofs.YtallfkecjibpmaaDoor.Q
namespace Go.Proofs.YtallfkecjibpmaaDoor.Pure
open Go.RowKit Go.Proofs.YtallfkecjibpmaaDoor.M Go.Proofs.YtallfkecjibpmaaDoor.Q Go.Proofs.YtallfkecjibpmaaDoor.G Go.Proofs.YtallfkecjibpmaaDoor.Cal
theorem TapFormats : M.motleylaw27_TapFormats.Pure := by
  intro s sec hs hw
  have hb : -9223372036854775808 ≤ sec ∧ sec ≤ 9223372036854775807 := by
    have e1 : IntKind.i64.min = -9223372036854775808 := by decide
    have e2 : IntKind.i64.max = 9223372036854775807 := by decide
    simp [Lit.wf, e1, e2] at hw
    exact hw
  refine ⟨1000000, ?_⟩
  unfold motleylaw27_TapFormats.f motleylaw27_known.f
  simp only [Option.bind_some]
  split
  · rfl
  obtain ⟨r, h1, h2⟩ := Formats_eq s sec hb.1 hb.2 1000000 (Nat.le_refl _)
  rw [h1, h2]
  simp only [Option.bind_some, if_true]
end Go.Proofs.YtallfkecjibpmaaDoor.Pure
