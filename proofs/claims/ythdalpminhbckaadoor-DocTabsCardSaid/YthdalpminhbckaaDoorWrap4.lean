/- doc: the words of a text and the lines on which they are put, proved by walking them. -/
import Derived.Test.YthdalpminhbckaaDoorWrap3
import Derived.Test.YthdalpminhbckaaDoorShelf
set_option linter.unusedVariables false
set_option linter.unusedSimpArgs false
namespace Go.Proofs.YthdalpminhbckaaDoor.G
open Go.RowKit Go.Proofs.YthdalpminhbckaaDoorW.PrintWords Go.Proofs.YthdalpminhbckaaDoorW.PrintMore Go.Proofs.YthdalpminhbckaaDoorW.PrintLast Go.Proofs.YthdalpminhbckaaDoor.Tx Go.Lib

def gapR (n : Nat) : Bool := n == 9 || (n == 10 || (n == 13 || n == 32))
theorem gap_any (x : Nat) (w : World) : Calls Tryd.prog 130 #[.int .i32 (x : Int)] w fun e w' => e = .returned (.bool (gapR x)) ∧ w' = w := by
  by_cases h1 : x = 9
  · subst h1
    go_enter Tryd.func130, Tryd.ntmps130
    go_wp2
    go_ret
    exact ⟨rfl, rfl⟩
  by_cases h2 : x = 10
  · subst h2
    go_enter Tryd.func130, Tryd.ntmps130
    go_wp2
    go_ret
    exact ⟨rfl, rfl⟩
  by_cases h3 : x = 13
  · subst h3
    go_enter Tryd.func130, Tryd.ntmps130
    go_wp2
    go_ret
    exact ⟨rfl, rfl⟩
  have e1 : ((x : Int) == 9) = false := by rw [beq_eq_false_iff_ne]; omega
  have e2 : ((x : Int) == 10) = false := by rw [beq_eq_false_iff_ne]; omega
  have e3 : ((x : Int) == 13) = false := by rw [beq_eq_false_iff_ne]; omega
  have hg : Aside0 (gapR x = ((x : Int) == 32)) := ⟨by
    unfold gapR
    rw [show (x == 9) = false by rw [beq_eq_false_iff_ne]; omega, show (x == 10) = false by rw [beq_eq_false_iff_ne]; omega, show (x == 13) = false by rw [beq_eq_false_iff_ne]; omega]
    simp only [Bool.false_or]
    by_cases h : x = 32
    · rw [h]; rfl
    · rw [show (x == 32) = false by rw [beq_eq_false_iff_ne]; omega, show ((x : Int) == 32) = false by rw [beq_eq_false_iff_ne]; omega]⟩
  go_enter Tryd.func130, Tryd.ntmps130
  go_wp2
  go_ret
  rw [hg.out]
  exact ⟨rfl, rfl⟩
theorem enters_gap : ∀ args w, (callFunc 130 args).run Tryd.prog w = .ok (.enter 130 args) w := fun args w => enters_ Tryd.func130 (by kernel_rfl) rfl args w
def wordsOf (t : ByteArray) : List ByteArray := goFieldsP gapR t
set_option maxHeartbeats 1000000 in
theorem words_any (t : ByteArray) (w : World) (hs : t.size ≤ 4294967296) :
    Calls Tryd.prog 97 #[.string t] w fun e w' => ∃ A, e = .returned (.slice (some ⟨A, 0, none⟩) (wordsOf t).length (wordsOf t).length) ∧ w.heap.size ≤ A ∧
      w'.ownsRow w.heap.size 9 1 (.slice (some ⟨A, 0, none⟩) (wordsOf t).length (wordsOf t).length) (wordsOf t).length ((wordsOf t).map Value.string) ∧ Below w.heap.size w w' := by
  go_enter Tryd.func97, Tryd.ntmps97
  go_wp2_with fail
  refine (Tryd.strings_FieldsFunc_runes _ #[] enters_gap gapR t _ hs (fun W x _ _ => (gap_any x W).mono fun e w' h => ⟨h.1, 0, h.2⟩)).mono ?_
  rintro e w' ⟨A, rfl, h1, h2, h3⟩
  go_wp2_with fail
  go_ret
  exact ⟨A, rfl, h1, h2, h3⟩
theorem words_size (t s : ByteArray) (h : s ∈ wordsOf t) : s.size ≤ t.size := by
  unfold wordsOf goFieldsP at h
  obtain ⟨x, _, rfl⟩ := List.mem_map.1 h
  rw [ByteArray.size_extract]
  omega

theorem loop_bounds : ∀ (f : Nat) (y : Wr) (s : ByteArray), (y.loop f s).1.lines.length ≤ y.lines.length + s.size ∧ (y.loop f s).2.size ≤ s.size ∧ (y.loop f s).1.others = y.others ∧ (y.loop f s).1.most = y.most ∧ ((y.loop f s).1.now.size ≤ y.now.size ∨ (y.loop f s).1.now.size ≤ y.others.size)
  | 0, y, s => by simp [Wr.loop]
  | f + 1, y, s => by
    unfold Wr.loop
    split
    · split
      · simp
      · rename_i h1 h2
        have hc := cutN_le (max (1 : Int) (y.most - (wd y.now : Int))).toNat s.data.toList
        rw [← size_len] at hc
        have hcw : cutW y s = cutN (max (1 : Int) (y.most - (wd y.now : Int))).toNat s.data.toList := rfl
        rw [← hcw] at hc
        have hne : s.data.toList ≠ [] := by
          intro h0
          have h5 : s.size = 0 := by rw [size_len, h0]; rfl
          omega
        have hpos : 1 ≤ cutW y s := by
          unfold cutW
          obtain ⟨j, hj⟩ : ∃ j, (max (1 : Int) (y.most - (wd y.now : Int))).toNat = j + 1 := ⟨(max (1 : Int) (y.most - (wd y.now : Int))).toNat - 1, by omega⟩
          rw [hj]
          exact cutN_pos j _ hne
        have z : (s.extract (cutW y s) s.size).size = s.size - cutW y s := by rw [ByteArray.size_extract]; omega
        obtain ⟨q, hq⟩ : ∃ q, ({ y with now := y.now ++ s.extract 0 (cutW y s) } : Wr).fin = q := ⟨_, rfl⟩
        have q1 : q.lines.length = y.lines.length + 1 := by rw [← hq]; simp [Wr.fin]
        have q2 : q.others = y.others := by rw [← hq]; rfl
        have q3 : q.most = y.most := by rw [← hq]; rfl
        have q4 : q.now = y.others := by rw [← hq]; rfl
        rw [hq]
        obtain ⟨a, b, c, d, e⟩ := loop_bounds f q (s.extract (cutW y s) s.size)
        rw [z] at a b
        rw [q2, q4] at e
        refine ⟨by omega, by omega, by rw [c, q2], by rw [d, q3], ?_⟩
        rcases e with e | e <;> exact .inr e
    · simp
theorem put_bounds (x : Wr) (s : ByteArray) : (x.put s).lines.length ≤ x.lines.length + s.size + 1 ∧ (x.put s).others = x.others ∧ (x.put s).most = x.most ∧ (x.put s).now.size ≤ x.now.size + x.others.size + s.size + 1 := by
  unfold Wr.put
  split
  · refine ⟨?_, rfl, rfl, ?_⟩
    · simp only; omega
    · simp only [ByteArray.size_append]
      have : sp.size = 1 := rfl
      omega
  · obtain ⟨a, b, c, d, e⟩ := loop_bounds (s.size + 1) (x.start s) s
    obtain ⟨g1, g2, g3, g4⟩ := start_facts x s
    refine ⟨by simp only; omega, by rw [c, g2], by rw [d, g3], ?_⟩
    simp only [ByteArray.size_append]
    rw [g2] at e
    omega
def Wr.puts (x : Wr) (l : List ByteArray) : Wr := l.foldl Wr.put x
theorem puts_snoc (x : Wr) (l : List ByteArray) (s : ByteArray) : x.puts (l ++ [s]) = (x.puts l).put s := by simp [Wr.puts]
theorem puts_bounds (x : Wr) (l : List ByteArray) (h : ∀ s ∈ l, s.size ≤ 5000) : (x.puts l).lines.length ≤ x.lines.length + l.length * 5001 ∧ (x.puts l).others = x.others ∧ (x.puts l).most = x.most ∧ (x.puts l).now.size ≤ x.now.size + l.length * (x.others.size + 5001) := by
  induction l generalizing x with
  | nil => simp [Wr.puts]
  | cons s l ih =>
    obtain ⟨a, b, c, d⟩ := put_bounds x s
    obtain ⟨a1, b1, c1, d1⟩ := ih (x.put s) (fun y hy => h y (List.mem_cons_of_mem _ hy))
    have hs := h s List.mem_cons_self
    have e : x.puts (s :: l) = (x.put s).puts l := rfl
    rw [b] at b1 d1
    rw [c] at c1
    rw [e, List.length_cons, Nat.add_mul, Nat.add_mul, Nat.one_mul, Nat.one_mul]
    exact ⟨by omega, b1, c1, by omega⟩
def wr0 (first others : ByteArray) (most : Int) : Wr := ⟨[], first, first, others, most, true⟩
def linesOf (t first others : ByteArray) (most : Int) : List ByteArray :=
  if (wordsOf t).length = 0 ∧ first.size = 0 then [] else ((wr0 first others most).puts (wordsOf t)).lines ++ [((wr0 first others most).puts (wordsOf t)).now]
def doc_wrapped.f (a0 a1 a2 : ByteArray) (a3 : Int) : Option (List ByteArray) :=
  if a0.size ≤ 5000 ∧ a1.size ≤ 5000 ∧ a2.size ≤ 5000 ∧ 0 ≤ a3 ∧ a3 ≤ 5000 ∧ (wordsOf a0).length ≤ 5000 then some (linesOf a0 a1 a2 a3) else none
theorem take_snoc' (l : List ByteArray) (k : Nat) (h : k < l.length) : l.take (k + 1) = l.take k ++ [rdOf ByteArray.empty l (k : Int)] := by
  rw [List.take_succ_eq_append_getElem h, rdOf, Int.toNat_natCast, List.getD_eq_getElem?_getD, List.getElem?_eq_getElem h]
  rfl
set_option maxHeartbeats 4000000 in
set_option maxRecDepth 100000 in
theorem doc_wrapped.calls (a0 a1 a2 : ByteArray) (a3 : Int) (r : List ByteArray) (w : World) (h : doc_wrapped.f a0 a1 a2 a3 = some r) :
    Calls Tryd.prog 66 #[.string a0, .string a1, .string a2, .int .i64 a3] w fun e w' => ∃ v0_ : Value, e = .returned (v0_) ∧ Kd.R Kd.string 9 w' w.heap.size (fun _ => True) v0_ r ∧ Below w.heap.size w w' := by
  unfold doc_wrapped.f at h
  split at h
  case isFalse => cases h
  case isTrue hc =>
  obtain rfl := Option.some.inj h
  obtain ⟨k0, k1, k2, k3, k4, k5⟩ := hc
  clear h
  go_enter Tryd.func66, Tryd.ntmps66
  go_wp2_with fail
  refine (words_any a0 _ (by omega)).mono ?_
  rintro e w2 ⟨A, rfl, hA0, hown, hb2⟩
  have hblk : w2.heap[w.heap.size]? = some (.cells #[.slice none 0 0, .string a1, .string a1, .string a2, .int .i64 a3, .bool true] 117 (0, 0)) := (hb2.block _ (by simp)).trans (heap_alloc_new w _)
  have hbW : Below w.heap.size w w2 := ((Below.refl _ w).alloc (Nat.le_refl _) _).trans (hb2.mono (by simp))
  have hAg : w.heap.size < A := by simp at hA0; omega
  have hsz2 : w.heap.size ≤ w2.heap.size := hbW.size
  have hA1 := Aside0.mk hAg
  obtain ⟨l, hl⟩ : ∃ l, wordsOf a0 = l := ⟨_, rfl⟩
  have hws : Aside0 (∀ s ∈ l, s.size ≤ 5000) := ⟨fun s hs => by have := words_size a0 s (by rw [hl]; exact hs); omega⟩
  have hlin : Aside0 (linesOf a0 a1 a2 a3 = if l.length = 0 ∧ a1.size = 0 then [] else ((wr0 a1 a2 a3).puts l).lines ++ [((wr0 a1 a2 a3).puts l).now]) := ⟨by unfold linesOf; rw [hl]⟩
  rw [hl] at hown k5
  rw [hl]
  have hcell : Aside0 (∀ k : Nat, k < l.length → w2.cell? ⟨A, k, none⟩ = some (.string (rdOf ByteArray.empty l (k : Int)))) := ⟨fun k hk => by
    have := (own_at_of (d := ByteArray.empty) (enc := Value.string) (xs := l) hown (k : Int) (by omega) (by omega)).1
    rwa [Int.toNat_natCast] at this⟩
  have hAlt : l.length ≠ 0 → A < w2.heap.size := fun hn => World.block_lt_of_cell? w2 _ (hcell.out 0 (by omega))
  have hst : Aside0 (At (wr0 a1 a2 a3) w.heap.size w.heap.size (.slice none 0 0) (.slice none 0 0) w2 w2) := ⟨⟨⟨hblk, Kd.R_nil _ _ _ _ _, Nat.le_refl _⟩, Below.refl _ _, Fr.refl _ _ _⟩⟩
  have hbW' := Aside0.mk hbW
  have hA0' := Aside0.mk hA0
  have hAlt' := Aside0.mk hAlt
  clear hown hblk hb2 hl hbW hA0 hAlt hAg
  by_cases hz : l.length = 0 ∧ a1.size = 0
  · have e1 : ((l.length : Int) == 0) = true := by rw [hz.1]; rfl
    have e2 : a1.toList = [] := toL_nil hz.2
    have e3 : a1.toList.isEmpty = true := by rw [e2]; rfl
    have hlin' : Aside0 (linesOf a0 a1 a2 a3 = []) := ⟨by rw [hlin.out, if_pos hz]⟩
    clear hz
    go_wp2_with fail
    go_ret
    rw [hlin'.out]
    exact ⟨_, rfl, Kd.R_nil _ _ _ _ _, hbW'.out⟩
  · have hlin' : Aside0 (linesOf a0 a1 a2 a3 = ((wr0 a1 a2 a3).puts l).lines ++ [((wr0 a1 a2 a3).puts l).now]) := ⟨by rw [hlin.out, if_neg hz]⟩
    have hzz : ((l.length : Int) == 0) = false ∨ (((l.length : Int) == 0) = true ∧ a1.toList.isEmpty = false) := by
      by_cases h0 : l.length = 0
      · exact .inr ⟨by rw [h0]; rfl, toL_ne (fun h1 => hz ⟨h0, h1⟩)⟩
      · exact .inl (by rw [beq_eq_false_iff_ne]; omega)
    clear hz hlin
    rcases hzz with e1 | ⟨e1, e2⟩
    all_goals
      go_wp2_with fail
      go_loopw [29] (fun i wr => ∃ (k : Nat) (v : Value), i = .int .i64 k ∧ k ≤ l.length ∧ Aside0 (At ((wr0 a1 a2 a3).puts (l.take k)) w.heap.size w.heap.size (.slice none 0 0) v w2 wr)) (fun i _ => l.length - (intOf i).toNat)
      case atStart => exact ⟨0, _, rfl, Nat.zero_le _, hst⟩
      case round =>
        obtain ⟨k, v, rfl, hk, hAt⟩ := hrel
        obtain ⟨b1, b2, b3, b4⟩ := puts_bounds (wr0 a1 a2 a3) (l.take k) (fun s hs => hws.out s (List.mem_of_mem_take hs))
        have b5 : (l.take k).length ≤ k := List.length_take_le _ _
        have b6 : (l.take k).length * 5001 ≤ 5000 * 5001 := Nat.mul_le_mul_right _ (by omega)
        have b7 : (l.take k).length * (a2.size + 5001) ≤ 5000 * 10001 := Nat.mul_le_mul (by omega) (by omega)
        change _ ≤ 0 + (l.take k).length * 5001 at b1
        change _ ≤ a1.size + (l.take k).length * (a2.size + 5001) at b4
        have b8 : ((wr0 a1 a2 a3).puts (l.take k)).lines.length ≤ 5000 * 5001 := by omega
        have b9 : ((wr0 a1 a2 a3).puts (l.take k)).now.size ≤ 5000 + 5000 * 10001 := by omega
        have b10 : ((wr0 a1 a2 a3).puts (l.take k)).others.size ≤ 5000 := by rw [b2]; exact k2
        have b11 : 0 ≤ ((wr0 a1 a2 a3).puts (l.take k)).most := by rw [b3]; exact k3
        have b12 : ((wr0 a1 a2 a3).puts (l.take k)).most ≤ 5000 := by rw [b3]; exact k4
        clear b1 b2 b3 b4 b5 b6 b7
        have hBr := hAt.out.size_ hsz2
        by_cases hlt : k < l.length
        · have hcl : wr.cell? ⟨A, k, none⟩ = some (.string (rdOf ByteArray.empty l (k : Int))) := by
            have h1 := hcell.out k hlt
            have h2 := hAt.out.fr.2.1 A (hAlt'.out (by omega)) (by have := hA1.out; omega) (by simp [Value.ownBlock])
            rw [← h1]
            simp only [World.cell?, h2]
          have hsn := Aside0.mk (take_snoc' l k hlt)
          have hss : (rdOf ByteArray.empty l (k : Int)).size ≤ 5000 := hws.out _ (by
            rw [rdOf, Int.toNat_natCast, List.getD_eq_getElem?_getD, List.getElem?_eq_getElem hlt]
            exact List.getElem_mem hlt)
          go_wp2_with fail
          refine (put_any ((wr0 a1 a2 a3).puts (l.take k)) w.heap.size w.heap.size v wr (rdOf ByteArray.empty l (k : Int)) hAt.out.lies hBr (by omega) (by omega) (by omega) (by omega) b11 (by omega)).mono ?_
          rintro e w3 ⟨rfl, v3, hAt3⟩
          have hAt4 := Aside0.mk (hAt.out.end_ hAt3.lies hAt3.below hAt3.fr)
          clear hAt3
          go_wp2_with fail
          go_roundw
          case rel =>
            refine ⟨k + 1, v3, by go_num, by omega, ⟨?_⟩⟩
            rw [hsn.out, puts_snoc]
            exact hAt4.out
          case measure =>
            simp [intOf]
            omega
        · have hke : k = l.length := by omega
          subst hke
          have htk : Aside0 (l.take l.length = l) := ⟨List.take_length⟩
          rw [htk.out] at hAt b8 b9
          obtain ⟨x, hx⟩ : ∃ x, (wr0 a1 a2 a3).puts l = x := ⟨_, rfl⟩
          rw [hx] at hAt b8 b9 hlin'
          clear hx b10 b11 b12
          have q0 := lies_cell0 hAt.out.lies
          have q1 := lies_cell1 hAt.out.lies
          have hbl : Below w.heap.size w wr := hbW'.out.trans hAt.out.below
          go_wp2_with (at_builtin; refine Kd.R_append Kd.string (w0 := w) w.heap.size rfl _ _ 27 9 (.string ⟨#[]⟩) 16 rfl Tryd.underlying27 infoStr rfl (by decide) (by decide) v x.lines x.now [.string x.now] (fun _ => True) (fun _ => False) rfl rfl rfl (fun _ hk => hk.elim) (fun _ _ => trivial) hAt.out.lies.2.1 hbl hBr (by omega) ?_; intro v1 w1 hR1 hb1 hg1 hat1)
          have hR1' := Aside0.mk hR1
          have hb1' := Aside0.mk hb1
          clear hR1 hg1 hat1
          go_wp2_with fail
          go_ret
          rw [hlin'.out]
          exact ⟨_, rfl, hR1'.out, hb1'.out⟩
end Go.Proofs.YthdalpminhbckaaDoor.G
