/- Lines, tabs and blanks: characters and bytes. Plain Lean, no program in it. -/
import Derived.Test.YthdalpminhbckaaDoorTabP
import Derived.Test.YthdalpminhbckaaDoorText
import Derived.Test.YthdalpminhbckaaDoorStrL
import Derived.Test.YthdalpminhbckaaDoorTabs
set_option linter.unusedVariables false
set_option linter.unusedSimpArgs false
namespace Go.Proofs.YthdalpminhbckaaDoor.Tabs
open Go.Lib Go.Proofs.YthdalpminhbckaaDoor.Tx Go.Proofs.YthdalpminhbckaaDoor.Sl Go.Proofs.YthdalpminhbckaaDoor.G
theorem e10 : encodeRune 10 = [10] := by rw [encodeRune, encodeRuneZ_one (by omega) (by omega)]; rfl
theorem enc_no10 (c : Int) (hc : chr c) (h : c ≠ 10) : ∀ b ∈ encodeRune c, b ≠ 10 := by
  have key : ∀ x : Int, 0 ≤ x → x < 256 → x ≠ 10 → x.toNat.toUInt8 ≠ 10 := by
    intro x h0 h1 h2 e
    have h3 : x.toNat.toUInt8.toNat = 10 := by rw [e]; rfl
    rw [Nat.toUInt8, UInt8.toNat_ofNat'] at h3
    omega
  have h0 : 0 ≤ c ∧ c ≤ 1114111 := by unfold chr at hc; omega
  intro b hb
  rw [encodeRune] at hb
  by_cases c1 : c < 128
  · rw [encodeRuneZ_one h0.1 (by omega)] at hb
    simp only [List.map_cons, List.map_nil, List.mem_cons, List.not_mem_nil, or_false] at hb
    rw [hb]; exact key _ h0.1 (by omega) h
  by_cases c2 : c < 2048
  · rw [encodeRuneZ_two (by omega) (by omega)] at hb
    simp only [List.map_cons, List.map_nil, List.mem_cons, List.not_mem_nil, or_false] at hb
    rcases hb with hb | hb <;> (rw [hb]; exact key _ (by omega) (by omega) (by omega))
  by_cases c3 : c < 65536
  · rw [encodeRuneZ_three (by unfold chr at hc; omega)] at hb
    simp only [List.map_cons, List.map_nil, List.mem_cons, List.not_mem_nil, or_false] at hb
    rcases hb with hb | hb | hb <;> (rw [hb]; exact key _ (by omega) (by omega) (by omega))
  · rw [encodeRuneZ_four (by omega) (by omega)] at hb
    simp only [List.map_cons, List.map_nil, List.mem_cons, List.not_mem_nil, or_false] at hb
    rcases hb with hb | hb | hb | hb <;> (rw [hb]; exact key _ (by omega) (by omega) (by omega))
/-- Characters cut at each line feed. -/
def segsI : List Int → List (List Int)
  | [] => [[]]
  | c :: l => if c = 10 then [] :: segsI l else match segsI l with
    | [] => [[c]]
    | x :: r => (c :: x) :: r
theorem segsI_cons : ∀ l, ∃ x r, segsI l = x :: r
  | [] => ⟨[], [], rfl⟩
  | c :: l => by
    obtain ⟨x, r, h⟩ := segsI_cons l
    unfold segsI
    rw [h]
    split
    · exact ⟨_, _, rfl⟩
    · exact ⟨_, _, rfl⟩
theorem segs_pre (c : UInt8) : ∀ (p l x : List UInt8) (r : List (List UInt8)), (∀ b ∈ p, b ≠ c) → segs c l = x :: r → segs c (p ++ l) = (p ++ x) :: r
  | [], l, x, r, _, h => h
  | b :: p, l, x, r, hp, h => by
    have ih := segs_pre c p l x r (fun y hy => hp y (by simp [hy])) h
    rw [List.cons_append, segs, if_neg (hp b (by simp)), ih]
    rfl
theorem segs_enc : ∀ cs : List Int, (∀ c ∈ cs, chr c) → segs 10 (enc cs) = (segsI cs).map enc
  | [], _ => rfl
  | c :: cs, hc => by
    have ih := segs_enc cs (fun x hx => hc x (by simp [hx]))
    obtain ⟨x, r, hx⟩ := segsI_cons cs
    rw [hx, List.map_cons] at ih
    rw [enc_cons]
    by_cases h : c = 10
    · subst h
      rw [e10, segsI, if_pos rfl, hx]
      show segs 10 (10 :: enc cs) = _
      rw [segs_hit, ih]
      rfl
    · rw [segs_pre 10 _ _ _ _ (enc_no10 c (hc c (by simp)) h) ih, segsI, if_neg h, hx]
      simp only [List.map_cons, enc_cons]
def joinI : List (List Int) → List Int
  | [] => []
  | [x] => x
  | x :: y :: r => x ++ 10 :: joinI (y :: r)
theorem joinI_pre (p x : List Int) (r : List (List Int)) : joinI ((p ++ x) :: r) = p ++ joinI (x :: r) := by
  cases r <;> simp [joinI]
theorem unR_lines (tab : Nat) : ∀ (cs : List Int) (col b : Nat), ∃ x r, segsI cs = x :: r ∧ unR tab cs col b = joinI (unL tab x col b :: r.map fun y => unL tab y 0 0)
  | [], col, b => ⟨[], [], rfl, rfl⟩
  | c :: cs, col, b => by
    by_cases h10 : c = 10
    · subst h10
      obtain ⟨x, r, hx, he⟩ := unR_lines tab cs 0 0
      refine ⟨[], x :: r, by rw [segsI, if_pos rfl, hx], ?_⟩
      rw [unR, if_pos rfl, he]
      rfl
    have hcons : ∀ col' b' (p : List Int), unR tab (c :: cs) col b = p ++ unR tab cs col' b' → (∀ x, unL tab (c :: x) col b = p ++ unL tab x col' b') →
        ∃ x r, segsI (c :: cs) = x :: r ∧ unR tab (c :: cs) col b = joinI (unL tab x col b :: r.map fun y => unL tab y 0 0) := by
      intro col' b' p h1 h2
      obtain ⟨x, r, hx, he⟩ := unR_lines tab cs col' b'
      refine ⟨c :: x, r, by rw [segsI, if_neg h10, hx], ?_⟩
      rw [h1, he, h2, joinI_pre]
    by_cases h32 : c = 32
    · by_cases hm : (col + 1) % tab = 0
      · refine hcons (col + 1) 0 [if 1 < b + 1 then 9 else 32] ?_ ?_
        · rw [unR, if_neg h10, if_pos h32, if_pos hm]; rfl
        · intro x; rw [unL, if_pos h32, if_pos hm]; rfl
      · refine hcons (col + 1) (b + 1) [] ?_ ?_
        · rw [unR, if_neg h10, if_pos h32, if_neg hm]; rfl
        · intro x; rw [unL, if_pos h32, if_neg hm]; rfl
    by_cases h9 : c = 9
    · refine hcons (col + (tab - col % tab)) 0 (List.replicate b 32 ++ [9]) ?_ ?_
      · rw [unR, if_neg h10, if_neg h32, if_pos h9, List.append_assoc]; rfl
      · intro x; rw [unL, if_neg h32, if_pos h9, List.append_assoc]; rfl
    · refine hcons (col + 1) 0 (List.replicate b 32 ++ [c]) ?_ ?_
      · rw [unR, if_neg h10, if_neg h32, if_neg h9, List.append_assoc]; rfl
      · intro x; rw [unL, if_neg h32, if_neg h9, List.append_assoc]; rfl
theorem unR_all (tab : Nat) (cs : List Int) : unR tab cs 0 0 = joinI ((segsI cs).map fun y => unL tab y 0 0) := by
  obtain ⟨x, r, hx, he⟩ := unR_lines tab cs 0 0
  rw [hx, he]
  rfl
theorem join_enc : ∀ L : List (List Int), join (L.map enc) [10] = enc (joinI L)
  | [] => rfl
  | [x] => by simp [join, List.intercalate, joinI]
  | x :: y :: r => by
    have ih := join_enc (y :: r)
    rw [joinI, enc_append, enc_cons, e10, ← ih]
    simp [join, List.intercalate, List.intersperse]
theorem segsI_chr : ∀ cs : List Int, (∀ c ∈ cs, chr c) → ∀ x ∈ segsI cs, ∀ c ∈ x, chr c
  | [], _, x, hx, c, hc => by simp [segsI] at hx; subst hx; cases hc
  | d :: cs, h, x, hx, c, hc => by
    have ih := segsI_chr cs (fun y hy => h y (by simp [hy]))
    obtain ⟨y, r, hy⟩ := segsI_cons cs
    rw [hy] at ih
    unfold segsI at hx
    rw [hy] at hx
    split at hx
    · rcases List.mem_cons.1 hx with rfl | hx
      · cases hc
      · exact ih x hx c hc
    · rcases List.mem_cons.1 hx with rfl | hx
      · rcases List.mem_cons.1 hc with rfl | hc
        · exact h _ (by simp)
        · exact ih y (by simp) c hc
      · exact ih x (by simp [hx]) c hc
/-- All lines of a valid text without their rows of blanks, joined again. -/
theorem un_text (tab : Nat) (cs : List Int) (hc : ∀ c ∈ cs, chr c) : join ((segs 10 (enc cs)).map fun l => enc (unL tab (runes l) 0 0)) [10] = enc (unR tab cs 0 0) := by
  rw [unR_all, ← join_enc, segs_enc cs hc, List.map_map, List.map_map]
  congr 1
  apply List.map_congr_left
  intro x hx
  show enc (unL tab (runes (enc x)) 0 0) = _
  rw [(runes_enc x (segsI_chr cs hc x hx)).1]
  rfl
theorem unR_chr (tab : Nat) : ∀ (cs : List Int) (col b : Nat), (∀ c ∈ cs, chr c) → ∀ c ∈ unR tab cs col b, chr c
  | [], col, b, h, c, hc => by have := (List.mem_replicate.1 hc).2; subst this; unfold chr; omega
  | d :: r, col, b, h, c, hc => by
    have hr : ∀ c ∈ r, chr c := fun y hy => h y (by simp [hy])
    have hd := h d (by simp)
    have hb : ∀ n, c ∈ List.replicate n (32 : Int) → chr c := fun n h => by have := (List.mem_replicate.1 h).2; subst this; unfold chr; omega
    unfold unR at hc
    split at hc
    · rcases List.mem_append.1 hc with hc | hc
      · exact hb _ hc
      · rcases List.mem_cons.1 hc with rfl | hc
        · unfold chr; omega
        · exact unR_chr tab r _ _ hr c hc
    split at hc
    · split at hc
      · rcases List.mem_cons.1 hc with hc | hc
        · rw [hc]; split <;> (unfold chr; omega)
        · exact unR_chr tab r _ _ hr c hc
      · exact unR_chr tab r _ _ hr c hc
    split at hc
    · rcases List.mem_append.1 hc with hc | hc
      · exact hb _ hc
      · rcases List.mem_cons.1 hc with rfl | hc
        · unfold chr; omega
        · exact unR_chr tab r _ _ hr c hc
    · rcases List.mem_append.1 hc with hc | hc
      · exact hb _ hc
      · rcases List.mem_cons.1 hc with rfl | hc
        · exact hd
        · exact unR_chr tab r _ _ hr c hc
theorem unR_len (tab : Nat) : ∀ (cs : List Int) (col b : Nat), (enc (unR tab cs col b)).length ≤ b + (enc cs).length
  | [], col, b => by rw [unR, enc_rep]; simp [enc]
  | d :: r, col, b => by
    unfold unR
    rw [enc_cons]
    have hl := (encodeRune_length d).1
    split
    · rename_i h
      subst h
      have := unR_len tab r 0 0
      rw [enc_append, enc_rep, enc_cons, e10]
      simp only [List.length_append, List.length_replicate, List.length_cons, List.length_nil]
      omega
    split
    · rename_i h
      split
      · have := unR_len tab r (col + 1) 0
        rw [enc_cons]
        have h3 : (encodeRune (if 1 < b + 1 then 9 else 32)).length = 1 := by split <;> first | (rw [e9]; rfl) | (rw [e32]; rfl)
        simp only [List.length_append]
        omega
      · have := unR_len tab r (col + 1) (b + 1)
        simp only [List.length_append]
        omega
    split
    · have := unR_len tab r (col + (tab - col % tab)) 0
      rw [enc_append, enc_rep, enc_cons, e9]
      simp only [List.length_append, List.length_replicate, List.length_cons, List.length_nil]
      omega
    · have := unR_len tab r (col + 1) 0
      rw [enc_append, enc_rep, enc_cons]
      simp only [List.length_append, List.length_replicate]
      omega
end Go.Proofs.YthdalpminhbckaaDoor.Tabs
