/- The plain law of DocQuotes: what it computes is true. -/
import Derived.Test.YthdalpminhbckaaDoorPDoc
import Derived.Test.YthdalpminhbckaaDoorQuote
import Derived.Test.YthdalpminhbckaaDoorPWordsD
import Derived.Test.YthdalpminhbckaaDoorM8
set_option linter.unusedVariables false
set_option linter.unusedSimpArgs false
namespace Go.Proofs.YthdalpminhbckaaDoor.Q
open Go.RowKit Go.Proofs.YthdalpminhbckaaDoorW.PrintWords Go.Proofs.YthdalpminhbckaaDoor.Tx Go.Proofs.YthdalpminhbckaaDoor.G Go.Proofs.YthdalpminhbckaaDoor.M Go.Lib Go.Proofs.YthdalpminhbckaaDoor.QL

theorem n92 {c : UInt8} : c = 92 ↔ c.toNat = 92 := ⟨fun h => by rw [h]; rfl, fun h => UInt8.toNat_inj.1 h⟩
theorem n34 {c : UInt8} : c = 34 ↔ c.toNat = 34 := ⟨fun h => by rw [h]; rfl, fun h => UInt8.toNat_inj.1 h⟩
theorem n39 {c : UInt8} : c = 39 ↔ c.toNat = 39 := ⟨fun h => by rw [h]; rfl, fun h => UInt8.toNat_inj.1 h⟩
theorem drop_at (s : ByteArray) (i : Nat) (h : i < s.size) : s.data.toList.drop i = s.data.toList.getD i 0 :: s.data.toList.drop (i + 1) := by
  have hlt : i < s.data.toList.length := by rw [← size_len]; exact h
  rw [List.getD_eq_getElem?_getD, List.getElem?_eq_getElem hlt]
  exact List.drop_eq_getElem_cons hlt
theorem drop_end (s : ByteArray) (i : Nat) (h : ¬ i < s.size) : s.data.toList.drop i = [] := List.drop_eq_nil_of_le (by rw [← size_len]; omega)
theorem ext1 (s : ByteArray) (i : Nat) (h : i < s.size) : (s.extract i (i + 1)).data.toList = [s.data.toList.getD i 0] := by
  rw [Lib.extract_data, drop_at s i h, show i + 1 - i = 1 by omega]
  rfl
theorem app_data (a b : ByteArray) : (a ++ b).data.toList = a.data.toList ++ b.data.toList := by simp
theorem pl_nil (q : UInt8) (o : List UInt8) : pl q [] o = none := by rw [pl.eq_def]
theorem partM_pl (s : ByteArray) (q : UInt8) : ∀ (n i : Nat) (out : ByteArray), s.size - i < n → i ≤ s.size →
    pl q (s.data.toList.drop i) out.data.toList = (partM s q.toNat n i out).map fun r => (r.1.data.toList, s.data.toList.drop (r.2 + 1))
  | 0, i, out, hn, hi => by omega
  | n + 1, i, out, hn, hi => by
    unfold partM
    by_cases h1 : i < s.size
    case neg => rw [if_neg h1, drop_end s i h1, pl_nil]; rfl
    rw [if_pos h1, drop_at s i h1, pl.eq_def]
    simp only
    have hb : bN s i = (s.data.toList.getD i 0).toNat := rfl
    by_cases h2 : s.data.toList.getD i 0 = q
    · rw [if_pos h2, if_pos (by rw [hb, h2])]; rfl
    have h2n : ¬ bN s i = q.toNat := fun h => h2 (UInt8.toNat_inj.1 h)
    rw [if_neg h2, if_neg h2n]
    have ih1 := partM_pl s q n (i + 1) (out ++ s.extract i (i + 1)) (by omega) (by omega)
    rw [app_data, ext1 s i h1] at ih1
    by_cases h3 : i + 1 < s.size
    · have ih2 := partM_pl s q n (i + 2) (out ++ s.extract (i + 1) (i + 2)) (by omega) (by omega)
      rw [app_data, ext1 s (i + 1) h3] at ih2
      rw [drop_at s (i + 1) h3] at ih1 ⊢
      simp only
      have hb2 : bN s (i + 1) = (s.data.toList.getD (i + 1) 0).toNat := rfl
      by_cases h4 : q = 34 ∧ s.data.toList.getD i 0 = 92 ∧ (s.data.toList.getD (i + 1) 0 = 34 ∨ s.data.toList.getD (i + 1) 0 = 92)
      · rw [if_pos h4, if_pos ⟨n34.1 h4.1, n92.1 h4.2.1, h3, h4.2.2.elim (fun h => .inl (n34.1 h)) (fun h => .inr (n92.1 h))⟩, ih2]
      · rw [if_neg h4, if_neg (fun h => h4 ⟨n34.2 h.1, n92.2 h.2.1, h.2.2.2.elim (fun h => .inl (n34.2 h)) (fun h => .inr (n92.2 h))⟩), ih1]
    · rw [drop_end s (i + 1) h3] at ih1 ⊢
      simp only
      rw [if_neg (fun h => h3 h.2.2.1), ih1]
theorem wordsM_wl (s : ByteArray) (F : Nat) (hF : s.size < F) : ∀ (n i : Nat) (l : List ByteArray) (x : ByteArray) (b : Bool), s.size - i < n → i ≤ s.size →
    wl (s.data.toList.drop i) (l.map (·.data.toList)) x.data.toList b = ((wordsM s F n i l x b).1.map (·.data.toList), (wordsM s F n i l x b).2)
  | 0, i, l, x, b, hn, hi => by omega
  | n + 1, i, l, x, b, hn, hi => by
    unfold wordsM
    by_cases h1 : i < s.size
    case neg =>
      rw [if_neg h1, drop_end s i h1, wl_nil]
      cases b <;> simp
    rw [if_pos h1, drop_at s i h1]
    have hb : bN s i = (s.data.toList.getD i 0).toNat := rfl
    have hx1 : (x ++ s.extract i (i + 1)).data.toList = x.data.toList ++ [s.data.toList.getD i 0] := by rw [app_data, ext1 s i h1]
    by_cases hg : gapB (bN s i)
    · rw [if_pos hg, wl_gap _ _ _ _ _ (show gap (s.data.toList.getD i 0) from hg)]
      have := wordsM_wl s F hF n (i + 1) (if b = true then l ++ [x] else l) (mk []) false (by omega) (by omega)
      rw [mk_list] at this
      rw [← this]
      cases b <;> simp
    rw [if_neg hg]
    have hg2 : ¬ gap (s.data.toList.getD i 0) := hg
    by_cases h92 : s.data.toList.getD i 0 = 92
    · rw [if_pos (show bN s i = 92 from n92.1 h92), h92]
      by_cases h3 : i + 1 = s.size
      · rw [if_pos h3, drop_end s (i + 1) (by omega)]
        rw [wl.eq_def]
        simp only
        rw [if_neg (by decide), if_pos trivial]
        rfl
      · have h4 : i + 1 < s.size := by omega
        rw [if_neg h3, drop_at s (i + 1) h4, wl_esc]
        have := wordsM_wl s F hF n (i + 2) l (x ++ s.extract (i + 1) (i + 2)) true (by omega) (by omega)
        rw [app_data, ext1 s (i + 1) h4] at this
        exact this
    rw [if_neg (show ¬ bN s i = 92 from fun h => h92 (n92.2 h))]
    by_cases hq : s.data.toList.getD i 0 = 39 ∨ s.data.toList.getD i 0 = 34
    · rw [if_pos (show bN s i = 39 ∨ bN s i = 34 from hq.elim (fun h => .inl (n39.1 h)) (fun h => .inr (n34.1 h)))]
      have hp := partM_pl s (s.data.toList.getD i 0) F (i + 1) (mk []) (by omega) (by omega)
      rw [mk_list, ← hb] at hp
      cases hm : partM s (bN s i) F (i + 1) (mk []) with
      | none =>
        rw [hm] at hp
        rw [wl_bad _ _ _ _ _ hq hp]
        rfl
      | some r =>
        obtain ⟨o, e⟩ := r
        rw [hm] at hp
        obtain ⟨p1, p2, p3⟩ := partM_on s _ _ _ _ _ _ (by omega) hm
        rw [wl_quote _ _ _ _ _ hq _ _ hp]
        have := wordsM_wl s F hF n (e + 1) l (x ++ o) true (by omega) (by omega)
        rw [app_data] at this
        exact this
    · rw [if_neg (show ¬ (bN s i = 39 ∨ bN s i = 34) from fun h => hq (h.elim (fun h => .inl (n39.2 h)) (fun h => .inr (n34.2 h)))), wl_plain _ _ _ _ _ hg2 h92 hq]
      have := wordsM_wl s F hF n (i + 1) l (x ++ s.extract i (i + 1)) true (by omega) (by omega)
      rw [hx1] at this
      exact this
theorem rLetter_eq (c : Int) : motleyref25_isLetter.f c = some (decide ((97 ≤ c ∧ c ≤ 122) ∨ (65 ≤ c ∧ c ≤ 90))) := by
  unfold motleyref25_isLetter.f
  repeat' split
  all_goals congr 1
  all_goals first | (rw [eq_comm, decide_eq_true_eq]; omega) | (rw [eq_comm, decide_eq_false_iff_not]; omega) | (exact decide_eq_decide.2 ⟨fun h => by omega, fun h => by omega⟩)
theorem rDigit_eq (c : Int) : motleyref25_isDigit.f c = some (decide (48 ≤ c ∧ c ≤ 57)) := by
  unfold motleyref25_isDigit.f
  repeat' split
  all_goals congr 1
  all_goals first | (rw [eq_comm, decide_eq_true_eq]; omega) | (rw [eq_comm, decide_eq_false_iff_not]; omega) | (exact decide_eq_decide.2 ⟨fun h => by omega, fun h => by omega⟩)
theorem rq_j1 (k : Nat) (s : ByteArray) (hs : s.size ≤ 4096) (b : Bool) (out : ByteArray) (i : Nat) (hi : i < s.size) (ho : out.size ≤ 100000) (c : Int) (f : Bool) :
    motleyref25_quoted.j1 (k + 1) s b out (i : Int) c f = motleyref25_quoted.l0 k s (if f = true then false else b) (out ++ (if c = 39 then mk [39, 92, 39, 39] else s.extract i (i + 1))) ((i + 1 : Nat) : Int) := by
  simp only [motleyref25_quoted.j1]
  have e1 : wrap64 ((i : Int) + 1) = ((i + 1 : Nat) : Int) := by rw [wrap64_id (by omega) (by omega)]; omega
  have e2 : (s.extract i (i + 1)).size = 1 := by rw [ByteArray.size_extract]; omega
  rw [e1]
  simp only [Int.toNat_natCast]
  cases f
  · rw [if_neg (show ¬ (false = true) by simp), if_neg (show ¬ (false = true) by simp)]
    by_cases h : c = 39
    · rw [if_pos h, if_pos h, if_pos (by omega)]; rfl
    · rw [if_neg h, if_neg h, if_pos (by omega), if_pos (by omega), if_pos (by omega), if_pos (by omega)]
  · rw [if_pos rfl, if_pos rfl]
    by_cases h : c = 39
    · rw [if_pos h, if_pos h, if_pos (by omega)]; rfl
    · rw [if_neg h, if_neg h, if_pos (by omega), if_pos (by omega), if_pos (by omega), if_pos (by omega)]
def rqR (s : ByteArray) (b : Bool) (out r : List UInt8) : ByteArray := if b = true ∧ ∀ c ∈ r, bareC c then s else mk (39 :: (out ++ esc r ++ [39]))
theorem rqR_bare {s : ByteArray} {b : Bool} {out r : List UInt8} {c : UInt8} (o2 : List UInt8) (h : bareC c) (ho : o2 ++ esc r = out ++ esc (c :: r)) : rqR s b o2 r = rqR s b out (c :: r) := by
  unfold rqR
  have e : (b = true ∧ ∀ x ∈ r, bareC x) ↔ (b = true ∧ ∀ x ∈ c :: r, bareC x) := ⟨fun g => ⟨g.1, fun x hx => by rcases List.mem_cons.1 hx with rfl | hx; exact h; exact g.2 x hx⟩, fun g => ⟨g.1, fun x hx => g.2 x (List.mem_cons_of_mem _ hx)⟩⟩
  rw [ho]
  simp only [e]
theorem rqR_not {s : ByteArray} {b b' : Bool} {out r : List UInt8} {c : UInt8} (o2 : List UInt8) (h : ¬ bareC c) (hb : b' = false) (ho : o2 ++ esc r = out ++ esc (c :: r)) : rqR s b' o2 r = rqR s b out (c :: r) := by
  unfold rqR
  rw [if_neg (by rw [hb]; simp), if_neg (fun g => h (g.2 c (by simp))), ho]
theorem esc_cons (c : UInt8) (r : List UInt8) : esc (c :: r) = (if c = 39 then [39, 92, 39, 39] else [c]) ++ esc r := by unfold esc; rw [List.flatMap_cons]
theorem rq_l0 (s : ByteArray) (hs : s.size ≤ 4096) : ∀ (d i k : Nat) (b : Bool) (out : ByteArray), i ≤ s.size → s.size - i = d → 2 * d + 2 ≤ k → out.size ≤ 4 * i →
    motleyref25_quoted.l0 k s b out (i : Int) = some (rqR s b out.data.toList (s.data.toList.drop i))
  | d, i, k, b, out, hi, hd, hk, ho => by
    obtain ⟨k, rfl⟩ : ∃ j, k = j + 1 := ⟨k - 1, by omega⟩
    simp only [motleyref25_quoted.l0]
    by_cases h : i < s.size
    case neg =>
      rw [if_neg (by omega), drop_end s i h]
      unfold rqR
      cases b
      · have e1 : ((⟨#[39]⟩ : ByteArray) ++ out).size = 1 + out.size := by rw [ByteArray.size_append]; rfl
        rw [if_neg (by simp), if_pos (by omega), if_pos (by omega), if_neg (by simp)]
        congr 1
        apply ba_ext
        simp [mk, esc]
      · rw [if_pos rfl, if_pos ⟨rfl, by simp⟩]
    obtain ⟨k, rfl⟩ : ∃ j, k = j + 1 := ⟨k - 1, by omega⟩
    rw [if_pos (by omega), if_pos (by omega), bt_N, rLetter_eq, rDigit_eq, drop_at s i h]
    simp only [Option.bind_some, decide_eq_true_eq]
    have hb : bN s i = (s.data.toList.getD i 0).toNat := rfl
    have hlt := bN_lt s i
    simp only [fun f => rq_j1 k s hs b out i h (by omega) ((bN s i : Nat) : Int) f]
    cases d with
    | zero => omega
    | succ d =>
      -- what is written
      have hout : (out ++ (if ((bN s i : Nat) : Int) = 39 then mk [39, 92, 39, 39] else s.extract i (i + 1))).data.toList ++ esc (s.data.toList.drop (i + 1)) = out.data.toList ++ esc (s.data.toList.getD i 0 :: s.data.toList.drop (i + 1)) := by
        rw [app_data, esc_cons, List.append_assoc]
        congr 2
        by_cases h39 : s.data.toList.getD i 0 = 39
        · rw [if_pos h39, if_pos (by rw [hb, h39]; rfl), mk_list]
        · rw [if_neg h39, if_neg (fun g => h39 (n39.2 (by omega))), ext1 s i h]
      have hosz : (out ++ (if ((bN s i : Nat) : Int) = 39 then mk [39, 92, 39, 39] else s.extract i (i + 1))).size ≤ 4 * (i + 1) := by
        rw [ByteArray.size_append]
        split
        · rw [mk_size]; simp; omega
        · rw [ByteArray.size_extract]; omega
      generalize out ++ (if ((bN s i : Nat) : Int) = 39 then mk [39, 92, 39, 39] else s.extract i (i + 1)) = o2 at *
      have ih := fun b2 => rq_l0 s hs d (i + 1) k b2 o2 (by omega) (by omega) (by omega) hosz
      simp only [ih]
      have yes : bareC (s.data.toList.getD i 0) → some (rqR s (if (false : Bool) = true then false else b) o2.data.toList (s.data.toList.drop (i + 1))) = some (rqR s b out.data.toList (s.data.toList.getD i 0 :: s.data.toList.drop (i + 1))) := fun g => by
        rw [if_neg (by simp)]; rw [rqR_bare _ g hout]
      have no : ∀ f : Bool, (f = true → ¬ bareC (s.data.toList.getD i 0)) → (f = false → bareC (s.data.toList.getD i 0)) → some (rqR s (if f = true then false else b) o2.data.toList (s.data.toList.drop (i + 1))) = some (rqR s b out.data.toList (s.data.toList.getD i 0 :: s.data.toList.drop (i + 1))) := fun f g1 g2 => by
        cases f
        · exact yes (g2 rfl)
        · rw [if_pos rfl, rqR_not _ (g1 rfl) rfl hout]
      unfold bareC at yes no
      rw [← hb] at yes no
      by_cases a1 : (97 ≤ ((bN s i : Nat) : Int) ∧ ((bN s i : Nat) : Int) ≤ 122) ∨ (65 ≤ ((bN s i : Nat) : Int) ∧ ((bN s i : Nat) : Int) ≤ 90)
      · rw [if_pos a1]; exact yes (by omega)
      rw [if_neg a1]
      by_cases a2 : 48 ≤ ((bN s i : Nat) : Int) ∧ ((bN s i : Nat) : Int) ≤ 57
      · rw [if_pos a2]; exact yes (by omega)
      rw [if_neg a2]
      by_cases a3 : ((bN s i : Nat) : Int) = 95
      · rw [if_pos a3]; exact yes (by omega)
      rw [if_neg a3]
      by_cases a4 : ((bN s i : Nat) : Int) = 46
      · rw [if_pos a4]; exact yes (by omega)
      rw [if_neg a4]
      by_cases a5 : ((bN s i : Nat) : Int) = 47
      · rw [if_pos a5]; exact yes (by omega)
      rw [if_neg a5]
      by_cases a6 : ((bN s i : Nat) : Int) = 45
      · rw [if_pos a6]; exact yes (by omega)
      rw [if_neg a6]
      by_cases a7 : ((bN s i : Nat) : Int) = 61
      · rw [if_pos a7]; exact yes (by omega)
      rw [if_neg a7]
      exact no _ (fun g => by rw [decide_eq_true_eq] at g; omega) (fun g => by rw [decide_eq_false_iff_not] at g; omega)
theorem rquoted_eq (s : ByteArray) (hs : s.size ≤ 4096) (k : Nat) (hk : 10000 ≤ k) : motleyref25_quoted.f k s = some (mk (quoB s)) := by
  unfold motleyref25_quoted.f
  have := rq_l0 s hs s.size 0 k (s.toList != ([] : List UInt8)) ⟨#[]⟩ (by omega) (by omega) (by omega) (by show 0 ≤ _; omega)
  rw [show ((0 : Nat) : Int) = 0 from rfl, List.drop_zero] at this
  rw [this]
  congr 1
  unfold rqR quoB quo
  rw [toList_data]
  by_cases h : bareW s.data.toList
  · have h' := h
    unfold bareW at h'
    rw [if_pos ⟨by simpa using h'.1, h'.2⟩, if_pos h, mk_of]
  · have h' := h
    unfold bareW at h'
    rw [if_neg (fun g => h' ⟨by simpa using g.1, g.2⟩), if_neg h]
    rfl
theorem askB_eq (s : ByteArray) : askB s = checkI s := by
  have h := ask_some s
  rw [show K.doc_asked.f s = some (checkI s) from dAsked_eq s] at h
  exact (Option.some.inj h).symm
theorem over_l0 (l : List ByteArray) (hl : l.length * 16 ≤ 140737488351232) : ∀ (d i k : Nat) (acc : Int), l.length - i = d → i ≤ l.length → d < k →
    ∃ b, motleylaw25_overAll.l0 k l acc (i : Int) = some b ∧ ((∀ x ∈ l, x.size ≤ 4096) → (l.length : Int) ≤ acc → acc + 4096 * d ≤ 9000000000000000000 → b = false → l.length ≤ 16384)
  | d, i, k, acc, hd, hi, hk => by
    obtain ⟨k, rfl⟩ : ∃ j, k = j + 1 := ⟨k - 1, by omega⟩
    simp only [motleylaw25_overAll.l0]
    by_cases h : i < l.length
    · rw [if_pos (by omega), if_pos (by omega)]
      have e1 : Aside0 (wrap64 ((i : Int) + 1) = ((i + 1 : Nat) : Int)) := ⟨by rw [wrap64_id (by omega) (by omega)]; omega⟩
      cases d with
      | zero => omega
      | succ d =>
        rw [e1.out]
        obtain ⟨b, h1, h2⟩ := over_l0 l hl d (i + 1) k (wrap64 (acc + ((rdOf ByteArray.empty l (i : Int)).size : Int))) (by omega) (by omega) (by omega)
        refine ⟨b, h1, fun g1 g2 g3 g4 => ?_⟩
        have hx := g1 _ (rd_mem' l i h)
        have e2 : wrap64 (acc + ((rdOf ByteArray.empty l (i : Int)).size : Int)) = acc + ((rdOf ByteArray.empty l (i : Int)).size : Int) := wrap64_id (by omega) (by omega)
        rw [e2] at h2
        exact h2 g1 (by omega) (by omega) g4
    · rw [if_neg (by omega)]
      refine ⟨_, rfl, fun g1 g2 g3 g4 => ?_⟩
      rw [decide_eq_false_iff_not] at g4
      omega
theorem rQ_err (l : List ByteArray) (F : Nat) (hF : 5000 ≤ F) (hl : l.length * 16 ≤ 140737488351232) : ∀ (d i k : Nat), l.length - i = d → i ≤ l.length → d + F ≤ k → firstE (l.drop i) ≠ 0 →
    motleyref25_Quote.l0 k l (i : Int) = some (⟨#[]⟩, firstE (l.drop i))
  | d, i, k, hd, hi, hk, hf => by
    obtain ⟨k, rfl⟩ : ∃ j, k = j + 1 := ⟨k - 1, by omega⟩
    by_cases h : i < l.length
    case neg => exact absurd (by rw [List.drop_eq_nil_of_le (by omega)]; rfl) hf
    rw [firstE_drop l i h] at hf ⊢
    simp only [motleyref25_Quote.l0]
    rw [if_pos (by omega), if_pos (by omega), rAsked_eq _ _ (by omega), ← askB_eq]
    simp only [Option.bind_some]
    by_cases h0 : askB (rdOf ByteArray.empty l (i : Int)) = 0
    · rw [if_pos h0] at hf ⊢
      rw [if_pos h0]
      have e1 : Aside0 (wrap64 ((i : Int) + 1) = ((i + 1 : Nat) : Int)) := ⟨by rw [wrap64_id (by omega) (by omega)]; omega⟩
      cases d with
      | zero => omega
      | succ d => rw [e1.out, rQ_err l F hF hl d (i + 1) k (by omega) (by omega) (by omega) hf]
    · rw [if_neg h0, if_neg h0]
theorem rQ_ok (l : List ByteArray) (hl : l.length * 16 ≤ 140737488351232) : ∀ (d i k : Nat), l.length - i = d → i ≤ l.length → 5000 ≤ k → firstE (l.drop i) = 0 →
    motleyref25_Quote.l0 (k + d + 1) l (i : Int) = motleyref25_Quote.l1 k l ⟨#[]⟩ 0
  | d, i, k, hd, hi, hk, hf => by
    simp only [motleyref25_Quote.l0]
    by_cases h : i < l.length
    · rw [firstE_drop l i h] at hf
      rw [if_pos (by omega), if_pos (by omega), rAsked_eq _ _ (by omega), ← askB_eq]
      simp only [Option.bind_some]
      by_cases h0 : askB (rdOf ByteArray.empty l (i : Int)) = 0
      · rw [if_pos h0] at hf
        rw [if_pos h0]
        have e1 : Aside0 (wrap64 ((i : Int) + 1) = ((i + 1 : Nat) : Int)) := ⟨by rw [wrap64_id (by omega) (by omega)]; omega⟩
        cases d with
        | zero => omega
        | succ d => rw [e1.out]; exact rQ_ok l hl d (i + 1) k (by omega) (by omega) (by omega) hf
      · rw [if_neg h0] at hf; exact absurd hf h0
    · rw [if_neg (by omega)]
      cases d with
      | zero => rfl
      | succ d => omega
theorem quoB_len (s : ByteArray) (hs : s.size ≤ 4096) : (quoB s).length ≤ 16386 := by
  have := quo_len s.data.toList
  rw [size_len] at hs
  unfold quoB
  omega
theorem accQ_len (l : List ByteArray) (hl : ∀ x ∈ l, x.size ≤ 4096) : ∀ k, k ≤ l.length → (accQ l k).length ≤ 16387 * k
  | 0, _ => by simp [accQ]
  | k + 1, hk => by
    have ih := accQ_len l hl k (by omega)
    have h := quoB_len _ (hl _ (rd_mem' l k (by omega)))
    show (accQ l k ++ _ ++ _).length ≤ _
    rw [List.length_append, List.length_append]
    have : (if k = 0 then ([] : List UInt8) else [32]).length ≤ 1 := by split <;> simp
    omega
theorem mk_app (a b : List UInt8) : mk a ++ mk b = mk (a ++ b) := ba_ext (by rw [app_data, mk_list, mk_list, mk_list])
theorem rQ_l1 (l : List ByteArray) (F : Nat) (hF : 10001 ≤ F) (hl : l.length ≤ 16384) (hx : ∀ x ∈ l, x.size ≤ 4096) : ∀ (d i k : Nat), l.length - i = d → i ≤ l.length → d + F ≤ k →
    motleyref25_Quote.l1 k l (mk (accQ l i)) (i : Int) = (if (accQ l l.length).length > 4096 then some (⟨#[]⟩, 3) else some (mk (accQ l l.length), 0))
  | d, i, k, hd, hi, hk => by
    obtain ⟨k, rfl⟩ : ∃ j, k = j + 1 := ⟨k - 1, by omega⟩
    have hal := accQ_len l hx i hi
    have hsz := mk_size (accQ l i)
    simp only [motleyref25_Quote.l1]
    by_cases h : i < l.length
    case neg =>
      rw [if_neg (by omega)]
      have e : i = l.length := by omega
      subst e
      by_cases hb : (accQ l l.length).length > 4096
      · rw [if_pos (by omega), if_pos hb]
      · rw [if_neg (by omega), if_neg hb]
    have hxi := hx _ (rd_mem' l i h)
    have hq := quoB_len _ hxi
    have e1 : Aside0 (wrap64 ((i : Int) + 1) = ((i + 1 : Nat) : Int)) := ⟨by rw [wrap64_id (by omega) (by omega)]; omega⟩
    have e2 : (⟨#[32]⟩ : ByteArray) = mk [32] := rfl
    rw [if_pos (by omega), rquoted_eq _ hxi _ (by omega), e2, e1.out]
    simp only [Option.bind_some, mk_app, mk_size]
    cases d with
    | zero => omega
    | succ d =>
      have ih := rQ_l1 l F hF hl hx d (i + 1) k (by omega) (by omega) (by omega)
      by_cases h0 : i = 0
      · subst h0
        rw [if_neg (by omega), if_pos (by omega), if_pos (by omega), ← ih]
        congr 2
      · rw [if_pos (by omega), if_pos (by omega), if_pos (by omega), if_pos (by rw [List.length_append]; simp only [List.length_cons, List.length_nil]; omega), ← ih]
        congr 2
        show _ = accQ l i ++ (if i = 0 then [] else [32]) ++ quoB (rdOf ByteArray.empty l (i : Int))
        rw [if_neg h0]
def quoteR (l : List ByteArray) : ByteArray × Int := if firstE l = 0 then (if (accQ l l.length).length > 4096 then (⟨#[]⟩, 3) else (mk (accQ l l.length), 0)) else (⟨#[]⟩, firstE l)
theorem all_size {l : List ByteArray} (h : firstE l = 0) : ∀ x ∈ l, x.size ≤ 4096 := fun x hx => Go.Proofs.YthdalpminhbckaaDoor.G.ask_size (firstE_all h x hx)
theorem rQuote_eq (l : List ByteArray) (hl : l.length * 16 ≤ 140737488351232) (hs : firstE l = 0 → l.length ≤ 16384) (k : Nat) : motleyref25_Quote.f (k + 20000 + 2 * l.length) l = some (quoteR l) := by
  unfold motleyref25_Quote.f quoteR
  by_cases h : firstE l = 0
  · rw [if_pos h]
    have h1 := rQ_ok l hl l.length 0 (k + 19999 + l.length) (by omega) (by omega) (by omega) (by rw [List.drop_zero]; exact h)
    rw [show k + 19999 + l.length + l.length + 1 = k + 20000 + 2 * l.length by omega] at h1
    have h2 := rQ_l1 l 10001 (by omega) (hs h) (all_size h) l.length 0 (k + 19999 + l.length) (by omega) (by omega) (by omega)
    rw [show ((0 : Nat) : Int) = 0 from rfl] at h1 h2
    rw [h1]
    have e : (⟨#[]⟩ : ByteArray) = mk (accQ l 0) := rfl
    rw [e, h2]
    split <;> rfl
  · rw [if_neg h]
    have h1 := rQ_err l 5000 (by omega) hl l.length 0 (k + 20000 + 2 * l.length) (by omega) (by omega) (by omega) (by rw [List.drop_zero]; exact h)
    rw [List.drop_zero] at h1
    exact h1
theorem dQuote_eq (l : List ByteArray) (hs : firstE l = 0 → l.length ≤ 16384) : doc_Quote.f l = some (quoteR l) := by
  unfold doc_Quote.f quoteR
  by_cases h : firstE l = 0
  · have := hs h
    rw [if_pos h, if_pos h, if_pos (by omega)]
    split <;> rfl
  · rw [if_neg h, if_neg h]
/-! ### what is quoted is valid -/
def VE (l : List UInt8) : Prop := ∃ cs : List Int, (∀ c ∈ cs, chr c) ∧ l = enc cs
theorem VE_app {a b : List UInt8} (h1 : VE a) (h2 : VE b) : VE (a ++ b) := by
  obtain ⟨x, x1, rfl⟩ := h1
  obtain ⟨y, y1, rfl⟩ := h2
  exact ⟨x ++ y, fun c hc => (List.mem_append.1 hc).elim (x1 c) (y1 c), (enc_append x y).symm⟩
theorem VE_valid {l : List UInt8} (h : VE l) : valid l = l.length := by
  obtain ⟨cs, h1, rfl⟩ := h
  exact (runes_enc cs h1).2
theorem VE_of {l : List UInt8} (h : valid l = l.length) : VE l := ⟨runes l, runes_chr l, (enc_runes l.length l (Nat.le_refl _) h).symm⟩
theorem VE_nil : VE [] := ⟨[], by simp, rfl⟩
theorem VE_one (n : Nat) (h : n ≤ 127) : VE [n.toUInt8] := ⟨[(n : Int)], fun c hc => by simp at hc; subst hc; unfold chr; omega, by rw [enc_cons, enc_nil, encodeRune, encodeRuneZ_one (by omega) (by omega)]; simp⟩
theorem enc39 (c : Int) (hc : chr c) : esc (encodeRune c) = if c = 39 then [39, 92, 39, 39] else encodeRune c := by
  by_cases h : c = 39
  · rw [if_pos h]; subst h
    rw [encodeRune, encodeRuneZ_one (by omega) (by omega)]
    rfl
  · rw [if_neg h]
    apply esc_free
    intro b hb e
    subst e
    unfold chr at hc
    obtain ⟨n, rfl⟩ := Int.eq_ofNat_of_zero_le (show 0 ≤ c by omega)
    have bad : ∀ m : Int, 0 ≤ m → m < 256 → m ≠ 39 → (39 : UInt8) ≠ m.toNat.toUInt8 := fun m m0 m1 m2 he => by
      have := congrArg UInt8.toNat he
      rw [toNat_u8 (by omega)] at this
      have h39 : (39 : UInt8).toNat = 39 := rfl
      omega
    rw [encodeRune] at hb
    by_cases c1 : n ≤ 127
    · rw [encodeRuneZ_one (by omega) (by omega)] at hb
      simp only [List.map_cons, List.map_nil, List.mem_singleton] at hb
      exact bad _ (by omega) (by omega) (by omega) hb
    by_cases c2 : n ≤ 2047
    · rw [encodeRuneZ_two (by omega) (by omega)] at hb
      simp only [List.map_cons, List.map_nil, List.mem_cons, List.not_mem_nil, or_false] at hb
      rcases hb with hb | hb <;> exact bad _ (by omega) (by omega) (by omega) hb
    by_cases c3 : n ≤ 65535
    · rw [encodeRuneZ_three (by omega)] at hb
      simp only [List.map_cons, List.map_nil, List.mem_cons, List.not_mem_nil, or_false] at hb
      rcases hb with hb | hb | hb <;> exact bad _ (by omega) (by omega) (by omega) hb
    · rw [encodeRuneZ_four (by omega) (by omega)] at hb
      simp only [List.map_cons, List.map_nil, List.mem_cons, List.not_mem_nil, or_false] at hb
      rcases hb with hb | hb | hb | hb <;> exact bad _ (by omega) (by omega) (by omega) hb
theorem VE_39 : VE [39] := VE_one 39 (by omega)
theorem VE_92 : VE [92] := VE_one 92 (by omega)
theorem VE_32 : VE [32] := VE_one 32 (by omega)
theorem VE_esc : ∀ cs : List Int, (∀ c ∈ cs, chr c) → VE (esc (enc cs))
  | [], _ => VE_nil
  | c :: cs, h => by
    rw [enc_cons, esc_app, enc39 c (h c (by simp))]
    apply VE_app _ (VE_esc cs fun x hx => h x (by simp [hx]))
    split
    · exact VE_app VE_39 (VE_app VE_92 (VE_app VE_39 VE_39))
    · exact ⟨[c], fun x hx => by simp at hx; subst hx; exact h x (by simp), by rw [enc_cons, enc_nil, List.append_nil]⟩
theorem VE_quo {w : List UInt8} (h : VE w) : VE (quo w) := by
  unfold quo
  split
  · exact h
  · obtain ⟨cs, h1, rfl⟩ := h
    exact VE_app VE_39 (VE_app (VE_esc cs h1) VE_39)
theorem VE_word {x : ByteArray} (h : askB x = 0) : VE x.data.toList := by
  rw [askB_eq] at h
  exact VE_of (check0 h).2
theorem VE_acc (l : List ByteArray) (h : firstE l = 0) : ∀ k, k ≤ l.length → VE (accQ l k)
  | 0, _ => VE_nil
  | k + 1, hk => by
    show VE (accQ l k ++ _ ++ quoB _)
    apply VE_app (VE_app (VE_acc l h k (by omega)) _) (VE_quo (VE_word (firstE_all h _ (rd_mem' l k (by omega)))))
    split
    · exact VE_nil
    · exact VE_32
theorem joinQ_snoc : ∀ (l : List (List UInt8)) (w : List UInt8), joinQ (l ++ [w]) = joinQ l ++ (if l = [] then [] else [32]) ++ quo w
  | [], w => by simp [joinQ]
  | [v], w => by simp [joinQ]
  | v :: u :: l, w => by
    have ih := joinQ_snoc (u :: l) w
    rw [if_neg (by simp)] at ih
    rw [if_neg (by simp)]
    simp only [List.cons_append, joinQ] at ih ⊢
    rw [ih]
    simp
theorem acc_join (l : List ByteArray) : ∀ k, k ≤ l.length → accQ l k = joinQ ((l.take k).map (·.data.toList))
  | 0, _ => rfl
  | k + 1, hk => by
    have e : l.take (k + 1) = l.take k ++ [rdOf ByteArray.empty l (k : Int)] := by
      rw [List.take_add_one, List.getElem?_eq_getElem (by omega)]
      unfold rdOf
      rw [Int.toNat_natCast, List.getD_eq_getElem?_getD, List.getElem?_eq_getElem (by omega)]
      rfl
    rw [e, List.map_append, List.map_cons, List.map_nil, joinQ_snoc, ← acc_join l k (by omega)]
    show accQ l k ++ (if k = 0 then [] else [32]) ++ quoB _ = _
    congr 2
    by_cases h0 : k = 0
    · subst h0; simp
    · rw [if_neg h0, if_neg]
      intro h
      have := congrArg List.length h
      rw [List.length_map, List.length_take, List.length_nil] at this
      omega
theorem map_inj : ∀ {a b : List ByteArray}, a.map (·.data.toList) = b.map (·.data.toList) → a = b
  | [], [], _ => rfl
  | [], _ :: _, h => by simp at h
  | _ :: _, [], h => by simp at h
  | x :: a, y :: b, h => by
    simp only [List.map_cons, List.cons.injEq] at h
    rw [ba_ext h.1, map_inj h.2]
theorem acc_join' (l : List ByteArray) : accQ l l.length = joinQ (l.map (·.data.toList)) := by rw [acc_join l l.length (Nat.le_refl _), List.take_length]
theorem back (l : List ByteArray) (h : firstE l = 0) (hb : ¬ (accQ l l.length).length > 4096) (F : Nat) (hF : 4097 ≤ F) : checkI (mk (accQ l l.length)) = 0 ∧ wordsM (mk (accQ l l.length)) F F 0 [] (mk []) false = (l, 0) := by
  have hz := mk_size (accQ l l.length)
  constructor
  · unfold checkI
    rw [if_neg (by omega), mk_list, if_pos (by rw [VE_valid (VE_acc l h l.length (Nat.le_refl _)), hz])]
  · have h1 := wordsM_wl (mk (accQ l l.length)) F (by omega) F 0 [] (mk []) false (by omega) (by omega)
    rw [List.drop_zero, mk_list, mk_list, List.map_nil] at h1
    have h2 := wl_join (l.map (·.data.toList)) []
    rw [← acc_join' l] at h2
    rw [h2] at h1
    simp only [List.nil_append, Prod.mk.injEq] at h1
    exact Prod.ext (map_inj h1.1.symm) h1.2.symm
end Go.Proofs.YthdalpminhbckaaDoor.Q

namespace Go.Proofs.YthdalpminhbckaaDoor.Pure
open Go.RowKit Go.Proofs.YthdalpminhbckaaDoorW.PrintWords Go.Proofs.YthdalpminhbckaaDoor.Tx Go.Proofs.YthdalpminhbckaaDoor.G Go.Proofs.YthdalpminhbckaaDoor.M Go.Proofs.YthdalpminhbckaaDoor.Q Go.Lib Go.Proofs.YthdalpminhbckaaDoor.QL
theorem words_back (l : List ByteArray) (h : firstE l = 0) (hb : ¬ (accQ l l.length).length > 4096) (k : Nat) (hk : 30000 ≤ k) : doc_Words.f k (mk (accQ l l.length)) = some (l, 0) := by
  rw [dWords_eq _ k hk]
  obtain ⟨h1, h2⟩ := back l h hb 5000 (by omega)
  unfold wordsR
  rw [if_pos h1, h2]
theorem DocQuotes : ∀ l : List ByteArray, l.length * 16 ≤ 140737488351232 → ∃ k, motleylaw25_DocQuotes.f k l = some true := by
  intro l hl
  refine ⟨40001 + 2 * l.length, ?_⟩
  unfold motleylaw25_DocQuotes.f motleylaw25_overAll.f
  obtain ⟨b, h1, h2⟩ := over_l0 l hl l.length 0 (40001 + 2 * l.length) (l.length : Int) (by omega) (by omega) (by omega)
  rw [show ((0 : Nat) : Int) = 0 from rfl] at h1
  rw [h1, dKnown_eq _ (by omega)]
  simp only [Option.bind_some]
  cases b
  case true => rw [if_pos rfl]
  rw [if_neg (by simp)]
  have hs : firstE l = 0 → l.length ≤ 16384 := fun g => h2 (all_size g) (by omega) (by omega) rfl
  have hr := rQuote_eq l hl hs 20001
  rw [show 20001 + 20000 + 2 * l.length = 40001 + 2 * l.length by omega] at hr
  rw [hr, dQuote_eq l hs]
  simp only [Option.bind_some, if_true, bne_self_eq_false]
  rw [show 40001 + 2 * l.length = (40000 + 2 * l.length) + 1 by omega]
  simp only [motleylaw25_DocQuotes.j0]
  rw [if_neg (by simp), dKnown_eq _ (by omega)]
  simp only [Option.bind_some]
  unfold quoteR
  by_cases h : firstE l = 0
  · rw [if_pos h]
    by_cases hb : (accQ l l.length).length > 4096
    · rw [if_pos hb, if_neg (by decide)]
    · rw [if_neg hb, if_pos rfl, words_back l h hb _ (by omega)]
      have := hs h
      simp only [Option.bind_some]
      rw [SameTexts_eq l (by omega) _ (by omega)]
      rfl
  · rw [if_neg h, if_neg h]
end Go.Proofs.YthdalpminhbckaaDoor.Pure
