/- doc: the blanks that all lines begin with, taken away: walked by hand. -/
import Derived.Test.YthdalpminhbckaaDoorK3
import Derived.Test.YthdalpminhbckaaDoorK2
import Derived.Test.YthdalpminhbckaaDoorStrs
import Derived.Test.YthdalpminhbckaaDoorWMore
import Derived.Test.YthdalpminhbckaaDoorWLast
import Derived.WalkKit
import Derived.BigCall
set_option linter.unusedVariables false
set_option linter.unusedSimpArgs false
namespace Go.Proofs.YthdalpminhbckaaDoor.G
open Go.RowKit Go.Proofs.YthdalpminhbckaaDoorW.PrintWords Go.Proofs.YthdalpminhbckaaDoorW.PrintMore Go.Proofs.YthdalpminhbckaaDoorW.PrintLast Go.Proofs.YthdalpminhbckaaDoor.Tx Go.Lib Go.Proofs.YthdalpminhbckaaDoor.K
attribute [local go_sem] max2_int max_two

def blankB (s : ByteArray) : Bool := decide (Lib.trimB s.data.toList 32 = [])
def leadB (s : ByteArray) : Int := (s.size : Int) - ((Lib.trimLeftB s.data.toList 32).length : Int)
def stepB (n : Int) (s : ByteArray) : Int := if blankB s = true then n else if n < 0 ∨ leadB s < n then leadB s else n
def leastB (xs : List ByteArray) (n : Int) : Int := xs.foldl stepB n
def cutB (n : Nat) (s : ByteArray) : ByteArray := if blankB s = true then ⟨#[]⟩ else s.extract n s.size
theorem leadB_bd (s : ByteArray) : 0 ≤ leadB s ∧ leadB s ≤ s.size := by
  have h : (Lib.trimLeftB s.data.toList 32).length ≤ s.data.toList.length := List.Sublist.length_le (List.dropWhile_sublist _)
  rw [← size_len] at h
  unfold leadB
  omega
theorem blankLine_eq (s : ByteArray) (h : s.size ≤ 9223372036854775807) : doc_isBlankLine.f s = some (blankB s) := by
  unfold doc_isBlankLine.f strings_Trim.f blankB
  simp only [show (⟨#[32]⟩ : ByteArray).data.toList = [32] from rfl]
  rw [if_pos ⟨by decide, h⟩]
  simp only [Option.bind_some]
  congr 1
  rw [ByteArray.toList_eq, Bool.eq_iff_iff]
  simp
theorem stepB_keep {n : Int} {s : ByteArray} (h : 0 ≤ n) : 0 ≤ stepB n s ∧ stepB n s ≤ n := by
  have := leadB_bd s
  unfold stepB
  repeat' split
  all_goals omega
theorem leastB_keep : ∀ (xs : List ByteArray) (n : Int), 0 ≤ n → 0 ≤ leastB xs n ∧ leastB xs n ≤ n
  | [], n, h => ⟨h, Int.le_refl _⟩
  | x :: xs, n, h => by
    have h1 := stepB_keep (s := x) h
    have h2 := leastB_keep xs (stepB n x) h1.1
    exact ⟨h2.1, by show leastB xs (stepB n x) ≤ n; omega⟩
theorem leastB_le : ∀ (xs : List ByteArray) (n : Int) (x : ByteArray), x ∈ xs → blankB x = false → 0 ≤ leastB xs n ∧ leastB xs n ≤ leadB x
  | y :: xs, n, x, hx, hb => by
    show 0 ≤ leastB xs (stepB n y) ∧ leastB xs (stepB n y) ≤ leadB x
    rcases List.mem_cons.1 hx with rfl | hx
    · have hl := leadB_bd x
      have h1 : 0 ≤ stepB n x ∧ stepB n x ≤ leadB x := by
        unfold stepB
        rw [hb, if_neg (by simp)]
        split <;> omega
      have h2 := leastB_keep xs (stepB n x) h1.1
      omega
    · exact leastB_le xs (stepB n y) x hx hb
theorem leastB_bd : ∀ (xs : List ByteArray) (n : Int) (m : Nat), -1 ≤ n → n ≤ m → (∀ x ∈ xs, x.size ≤ m) → -1 ≤ leastB xs n ∧ leastB xs n ≤ m
  | [], n, m, h0, h1, _ => ⟨h0, h1⟩
  | x :: xs, n, m, h0, h1, h => by
    have hx := h x (by simp)
    have hl := leadB_bd x
    refine leastB_bd xs (stepB n x) m ?_ ?_ (fun y hy => h y (by simp [hy]))
    all_goals (unfold stepB; repeat' split)
    all_goals omega
theorem leastB_take (xs : List ByteArray) (n : Int) (k : Nat) (h : k < xs.length) : leastB (xs.take (k + 1)) n = stepB (leastB (xs.take k) n) (rdOf ByteArray.empty xs k) := by
  unfold leastB rdOf
  rw [List.take_succ_eq_append_getElem h, List.foldl_append, Int.toNat_natCast, List.getD_eq_getElem?_getD, List.getElem?_eq_getElem h]
  rfl
/-- The lines while they are cut: k of them are. -/
def mid (n k : Nat) (xs : List ByteArray) : List ByteArray := (xs.take k).map (cutB n) ++ xs.drop k
theorem mid_len (n k : Nat) (xs : List ByteArray) (h : k ≤ xs.length) : (mid n k xs).length = xs.length := by
  unfold mid
  rw [List.length_append, List.length_map, List.length_take, List.length_drop]
  omega
theorem mid_zero (n : Nat) (xs : List ByteArray) : mid n 0 xs = xs := rfl
theorem mid_all (n : Nat) (xs : List ByteArray) : mid n xs.length xs = xs.map (cutB n) := by
  unfold mid
  rw [List.take_length, List.drop_length, List.append_nil]
theorem mid_at (n k : Nat) (xs : List ByteArray) (h : k < xs.length) : rdOf ByteArray.empty (mid n k xs) (k : Int) = rdOf ByteArray.empty xs (k : Int) := by
  unfold mid rdOf
  rw [Int.toNat_natCast, List.getD_eq_getElem?_getD, List.getD_eq_getElem?_getD, List.getElem?_append_right (by simp; omega)]
  simp
  congr 2
  rw [Nat.min_eq_left (by omega)]
  omega
theorem mid_set (n k : Nat) (xs : List ByteArray) (h : k < xs.length) : (mid n k xs).set k (cutB n (rdOf ByteArray.empty xs (k : Int))) = mid n (k + 1) xs := by
  unfold mid rdOf
  rw [Int.toNat_natCast, List.getD_eq_getElem?_getD, List.getElem?_eq_getElem h, List.take_succ_eq_append_getElem h, List.map_append, List.set_append, if_neg (by simp; omega)]
  simp only [List.length_map, List.length_take, Nat.min_eq_left (Nat.le_of_lt h), Nat.sub_self]
  rw [List.drop_eq_getElem_cons h, List.set_cons_zero]
  simp
theorem rd_mem (xs : List ByteArray) (k : Nat) (h : k < xs.length) : rdOf ByteArray.empty xs (k : Int) ∈ xs := by
  unfold rdOf
  rw [Int.toNat_natCast, List.getD_eq_getElem?_getD, List.getElem?_eq_getElem h]
  exact List.getElem_mem h
theorem ext_allI (s : ByteArray) : s.extract (Int.toNat 0) s.size = s := by
  show s.extract 0 s.size = s
  exact ByteArray.extract_zero_size
def lines10 (a0 : ByteArray) : List ByteArray := Lib.splitB ⟨#[10]⟩ 0 (Lib.countB a0 ⟨#[10]⟩) a0
def indN (a0 : ByteArray) : Int := if leastB (lines10 a0) (-1) < 0 then 0 else leastB (lines10 a0) (-1)
def indOut (a0 : ByteArray) : List UInt8 := Lib.join (((lines10 a0).map (cutB (indN a0).toNat)).map (·.data.toList)) [10]
def doc_Indent.f (a0 : ByteArray) : Option (ByteArray × Int × Int) := match doc_asked.f a0 with
  | none => none
  | some e => if e = 0 then (if a0.size ≤ 4096 ∧ (lines10 a0).length ≤ 5000 ∧ (∀ x ∈ lines10 a0, x.size ≤ 4096) ∧ (indOut a0).length ≤ 100000 then some (⟨(indOut a0).toArray⟩, indN a0, 0) else none) else some (⟨#[]⟩, 0, e)
theorem lines10_pos (a0 : ByteArray) : 0 < (lines10 a0).length := by
  unfold lines10
  rw [Sl.splitB_len]
  omega
theorem blank_cut {n : Nat} {s : ByteArray} (h : blankB s = true) : cutB n s = ⟨#[]⟩ := by unfold cutB; rw [if_pos h]
theorem plain_cut {n : Nat} {s : ByteArray} (h : blankB s = false) : cutB n s = s.extract n s.size := by unfold cutB; rw [if_neg (by rw [h]; simp)]
set_option maxHeartbeats 1000000 in
set_option maxRecDepth 100000 in
theorem Indent_bad (a0 : ByteArray) (e0 : Int) (w : World) (hL : LaidW w) (h : doc_asked.f a0 = some e0) (h0 : ¬ e0 = 0) :
    Calls Tryd.prog 25 #[.string a0] w fun e w' => e = .returned (.tuple #[.string ⟨#[]⟩, .int .i64 0, .int .i64 e0]) ∧ Below w.heap.size w w' := by
  have hask := Aside0.mk (fun w hL => doc_asked.calls a0 e0 w hL h)
  have c1 : (e0 == 0) = false := beq_eq_false_iff_ne.2 h0
  have c2 : (e0 != 0) = true := bne_iff_ne.2 h0
  clear h h0
  go_enter Tryd.func25, Tryd.ntmps25
  go_wp2_with (go_at_call 36; refine (hask.out _ hL).mono ?_; rintro e w1 ⟨rfl, hb1⟩)
  go_ret3
  exact ⟨rfl, hb1⟩
set_option maxHeartbeats 2000000 in
set_option maxRecDepth 100000 in
theorem Indent_good (a0 : ByteArray) (w : World) (hL : LaidW w) (h : doc_asked.f a0 = some 0) (hs : a0.size ≤ 4096) (hlen : (lines10 a0).length ≤ 5000) (hall : ∀ x ∈ lines10 a0, x.size ≤ 4096) (hout : (indOut a0).length ≤ 100000) :
    Calls Tryd.prog 25 #[.string a0] w fun e w' => e = .returned (.tuple #[.string ⟨(indOut a0).toArray⟩, .int .i64 (indN a0), .int .i64 0]) ∧ Below w.heap.size w w' := by
  have hask := Aside0.mk (fun w hL => doc_asked.calls a0 0 w hL h)
  have hsp := Aside0.mk (fun w hL => strings_Split.calls a0 (⟨#[10]⟩ : ByteArray) (lines10 a0) w hL (by unfold strings_Split.f; rw [if_pos ⟨by omega, rfl⟩]; rfl))
  have hj := Aside0.mk (fun A c w (hr : Kd.C Kd.string w A ((lines10 a0).map (cutB (indN a0).toNat)).length ((lines10 a0).map (cutB (indN a0).toNat))) hc => strings_Join.calls A c ((lines10 a0).map (cutB (indN a0).toNat)) (⟨#[10]⟩ : ByteArray) ⟨(indOut a0).toArray⟩ w hr hc (by
    unfold strings_Join.f
    rw [if_pos ⟨by rw [List.length_map]; omega, by show (indOut a0).length ≤ _; omega⟩]; rfl))
  have hpos := lines10_pos a0
  have hN : indN a0 = if leastB (lines10 a0) (-1) < 0 then 0 else leastB (lines10 a0) (-1) := rfl
  generalize indOut a0 = out at *
  generalize indN a0 = N at *
  generalize lines10 a0 = xs at *
  have hbd := leastB_bd xs (-1) 4096 (by omega) (by omega) hall
  have hNb : 0 ≤ N ∧ N ≤ 4096 := by rw [hN]; split <;> omega
  have hle := Aside0.mk (fun x (hx : x ∈ xs) (hb : blankB x = false) => (show N ≤ leadB x by
    have := leastB_le xs (-1) x hx hb
    rw [hN]; split <;> omega))
  have hNA := Aside0.mk hN
  clear hN
  have hbl := Aside0.mk (fun x (hx : x ∈ xs) w => doc_isBlankLine.calls x (blankB x) w (blankLine_eq x (by have := hall x hx; omega)))
  have htl := Aside0.mk (fun x w => strings_TrimLeft.calls x (⟨#[32]⟩ : ByteArray) ⟨(Lib.trimLeftB x.data.toList 32).toArray⟩ w rfl)
  have hallA := Aside0.mk hall
  have hbt := Aside0.mk (fun k => leastB_bd (xs.take k) (-1) 4096 (by omega) (by omega) (fun x hx => hall x (List.mem_of_mem_take hx)))
  have hst := Aside0.mk (leastB_take xs (-1))
  have hmem := Aside0.mk (rd_mem xs)
  clear h hall
  go_enter Tryd.func25, Tryd.ntmps25
  go_wp2_with (first | (go_at_call 36; refine (hask.out _ hL).mono ?_; rintro e w1 ⟨rfl, hb1⟩) | (go_at_call 54; refine (hsp.out _ (hL.below hb1)).mono ?_; rintro e w2 ⟨v, rfl, hR, hb2⟩; obtain ⟨g, cap, rfl, hgb, hgl, _⟩ := Kd.R_form hR hpos))
  have hbW : Below w.heap.size w w2 := hb1.trans (hb2.mono hb1.size)
  have hR := Aside0.mk (Kd.R_lower hR hb1.size)
  have hgb2 : w.heap.size ≤ g := by have := hb1.size; omega
  clear hb2 hgb
  go_loopw [6, 22] (fun n i wr => ∃ (k m : Nat), k ≤ xs.length ∧ i = .int .i64 k ∧ n = .int .i64 (leastB (xs.take k) (-1)) ∧ wr = w2.drewN m) (fun _ i _ => xs.length - (Go.RowKit.intOf i).toNat)
  case atStart => exact ⟨0, 0, by omega, rfl, rfl, rfl⟩
  case round =>
    obtain ⟨k, m, hk, rfl, rfl, rfl⟩ := hrel
    by_cases hlt : k < xs.length
    · have hcell := (Kd.R_cell (enc := Value.string) ByteArray.empty hR.out (k : Int) (by omega) (by omega)).1
      rw [Int.toNat_natCast] at hcell
      have hxm := hmem.out k hlt
      have hxs := hallA.out _ hxm
      have hb := Aside0.mk (hbl.out _ hxm)
      have hs1 := Aside0.mk (hst.out k hlt)
      have hnb := hbt.out k
      have hld := leadB_bd (rdOf ByteArray.empty xs (k : Int))
      have hldd := Aside0.mk (show leadB (rdOf ByteArray.empty xs (k : Int)) = _ from rfl)
      generalize leastB (xs.take k) (-1) = n at *
      have htl2 := Aside0.mk (fun w => htl.out (rdOf ByteArray.empty xs (k : Int)) w)
      clear hxm
      generalize rdOf ByteArray.empty xs (k : Int) = x at *
      rcases (Bool.eq_false_or_eq_true (blankB x)) with hbx | hbx
      · rw [hbx] at hb
        have hbx := Aside0.mk hbx
        go_wp2_with (first | (go_at_call 59; refine (hb.out _).mono ?_; rintro e w3 ⟨rfl, ⟨nd, rfl⟩⟩))
        go_roundw
        case rel => exact ⟨k + 1, _, by omega, by go_num, by rw [hs1.out, stepB, if_pos hbx.out], by first | rfl | rw [World.drewN_drewN]⟩
        case measure => simp [Go.RowKit.intOf]; omega
      · rw [hbx] at hb
        have hbx := Aside0.mk hbx
        have hts : (⟨(Lib.trimLeftB x.data.toList 32).toArray⟩ : ByteArray).size = (Lib.trimLeftB x.data.toList 32).length := by simp [ByteArray.size]
        have hsz : ((x.size : Int) - ((⟨(Lib.trimLeftB x.data.toList 32).toArray⟩ : ByteArray).size : Int)) = leadB x := by rw [hts]; rfl
        generalize (⟨(Lib.trimLeftB x.data.toList 32).toArray⟩ : ByteArray) = y at *
        have hyx : y.size ≤ x.size := by omega
        have hsz := Aside0.mk hsz
        clear hts hldd
        have hldd2 : ∃ ld, leadB x = ld := ⟨_, rfl⟩
        obtain ⟨ld, hldd2⟩ := hldd2
        rw [hldd2] at hsz hld
        have hldd2 := Aside0.mk hldd2
        have hst2 : Aside0 (stepB n x = if n < 0 ∨ ld < n then ld else n) := ⟨by unfold stepB; rw [hbx.out, if_neg (by simp), hldd2.out]⟩
        have hyb : y.size ≤ 4096 := by omega
        rcases (show n < 0 ∨ (¬ n < 0 ∧ ld < n) ∨ (¬ n < 0 ∧ ¬ ld < n) by omega) with c1 | ⟨c1, c2⟩ | ⟨c1, c2⟩
        · have d1 := decide_eq_true c1
          have e1 := Aside0.mk (show (if n < 0 ∨ ld < n then ld else n) = ld from if_pos (.inl c1))
          clear c1
          go_wp2_with (first | (go_at_call 59; refine (hb.out _).mono ?_; rintro e w3 ⟨rfl, ⟨nd, rfl⟩⟩) | (go_at_call 60; refine (htl2.out _).mono ?_; rintro e w4 ⟨rfl, ⟨nd2, rfl⟩⟩))
          go_roundw
          case rel => exact ⟨k + 1, _, by omega, by go_num, by first | rw [hs1.out, hst2.out, e1.out] | rw [hs1.out, hst2.out, e1.out, ← hsz.out], by first | rfl | rw [World.drewN_drewN]⟩
          case measure => simp [Go.RowKit.intOf]; omega
        · have d1 := decide_eq_false c1
          have d2 : decide (ld < n) = true := decide_eq_true c2
          have e1 := Aside0.mk (show (if n < 0 ∨ ld < n then ld else n) = ld from if_pos (.inr c2))
          clear c1 c2
          go_wp2_with (first | (go_at_call 59; refine (hb.out _).mono ?_; rintro e w3 ⟨rfl, ⟨nd, rfl⟩⟩) | (go_at_call 60; refine (htl2.out _).mono ?_; rintro e w4 ⟨rfl, ⟨nd2, rfl⟩⟩))
          go_roundw
          case rel => exact ⟨k + 1, _, by omega, by go_num, by first | rw [hs1.out, hst2.out, e1.out] | rw [hs1.out, hst2.out, e1.out, ← hsz.out], by first | rfl | rw [World.drewN_drewN]⟩
          case measure => simp [Go.RowKit.intOf]; omega
        · have d1 := decide_eq_false c1
          have d2 : decide (ld < n) = false := decide_eq_false c2
          have e1 := Aside0.mk (show (if n < 0 ∨ ld < n then ld else n) = n from if_neg (by omega))
          clear c1 c2
          go_wp2_with (first | (go_at_call 59; refine (hb.out _).mono ?_; rintro e w3 ⟨rfl, ⟨nd, rfl⟩⟩) | (go_at_call 60; refine (htl2.out _).mono ?_; rintro e w4 ⟨rfl, ⟨nd2, rfl⟩⟩))
          go_roundw
          case rel => exact ⟨k + 1, _, by omega, by go_num, by rw [hs1.out, hst2.out, e1.out], by first | rfl | rw [World.drewN_drewN]⟩
          case measure => simp [Go.RowKit.intOf]; omega
    · obtain rfl : k = xs.length := by omega
      rw [List.take_length]
      have hN2 := Aside0.mk (show (if leastB xs (-1) < 0 then 0 else leastB xs (-1)) = N from hNA.out.symm)
      generalize leastB xs (-1) = n at *
      have hcase : (n < 0 ∧ N = 0) ∨ (¬ n < 0 ∧ n = N) := by
        by_cases c : n < 0
        · exact .inl ⟨c, by rw [← hN2.out, if_pos c]⟩
        · exact .inr ⟨c, by rw [← hN2.out, if_neg c]⟩
      clear hN2 hNA
      obtain ⟨Nt, hNt⟩ : ∃ Nt : Nat, Nt = N.toNat := ⟨_, rfl⟩
      rw [← hNt] at hj
      have hNt0 : Nt = N.toNat := hNt
      clear hNt
      rcases hcase with ⟨c, e⟩ | ⟨c, e⟩
      all_goals
        subst e
        have hNt := Aside0.mk hNt0
        clear hNt0
        go_wp2
        have hR2 := Kd.R_drewN hR.out m
        obtain ⟨W, hW⟩ : ∃ W : World, W = w2.drewN m := ⟨_, rfl⟩
        rw [← hW] at hR2 ⊢
        have hbW2 : Below w.heap.size w W := by rw [hW]; exact pw_below_drewN hbW _
        have hR2 := Aside0.mk hR2
        clear hW hR c
        go_loopw [48] (fun i wr => ∃ k : Nat, k ≤ xs.length ∧ i = .int .i64 k ∧ Aside0 (Kd.string.R 9 wr w.heap.size (fun _ => True) (.slice (some ⟨g, 0, none⟩) xs.length cap) (mid Nt k xs)) ∧ Below w.heap.size w wr) (fun i _ => xs.length - (Go.RowKit.intOf i).toNat)
        case atStart => exact ⟨0, by omega, rfl, hR2, hbW2⟩
        case round =>
          obtain ⟨k, hk, rfl, hRk, hbk⟩ := hrel
          by_cases hlt : k < xs.length
          · have hml := mid_len Nt k xs hk
            have hRk2 := hRk.out
            rw [← hml] at hRk2
            have hc := Kd.R_cell (enc := Value.string) ByteArray.empty hRk2 (k : Int) (by omega) (by omega)
            rw [mid_at Nt k xs hlt, Int.toNat_natCast] at hc
            obtain ⟨hcell, hfz⟩ := hc
            have hxm := hmem.out k hlt
            have hxs := hallA.out _ hxm
            have hb := Aside0.mk (hbl.out _ hxm)
            have hle2 := Aside0.mk (hle.out _ hxm)
            have hms := Aside0.mk (mid_set Nt k xs hlt)
            have hput := Aside0.mk (fun nd x => Kd.R_put (enc := Value.string) (Kd.R_drewN hRk2 nd) (k : Int) x)
            clear hxm hRk2 hml hRk
            generalize rdOf ByteArray.empty xs (k : Int) = x at *
            rcases (Bool.eq_false_or_eq_true (blankB x)) with hbx | hbx
            · rw [hbx] at hb
              have hct := Aside0.mk (blank_cut (n := Nt) hbx)
              clear hbx
              go_wp2_with (first | (go_at_call 59; refine (hb.out _).mono ?_; rintro e w3 ⟨rfl, ⟨nd, rfl⟩⟩))
              go_roundw
              case rel =>
                obtain ⟨h1, h2⟩ := hput.out nd ⟨#[]⟩
                rw [Int.toNat_natCast] at h1 h2
                refine ⟨k + 1, by omega, by go_num, ⟨?_⟩, ?_⟩
                · have key := fun x => (hput.out nd x).1
                  simp only [Int.toNat_natCast, List.length_set, mid_len Nt k xs hk] at key
                  rw [← hms.out, hct.out]
                  exact key _
                · exact (pw_below_drewN hbk nd).setCell hgb2 _
              case measure => simp [Go.RowKit.intOf]; omega
            · rw [hbx] at hb
              have hct := Aside0.mk (plain_cut (n := Nt) hbx)
              have hlx := hle2.out hbx
              have hlb := leadB_bd x
              have hNx := Int.le_trans hlx hlb.2
              clear hbx hlx hlb hle2
              go_wp2_with (first | (go_at_call 59; refine (hb.out _).mono ?_; rintro e w3 ⟨rfl, ⟨nd, rfl⟩⟩))
              go_roundw
              case rel =>
                refine ⟨k + 1, by omega, by go_num, ⟨?_⟩, ?_⟩
                · have key := fun x => (hput.out nd x).1
                  simp only [Int.toNat_natCast, List.length_set, mid_len Nt k xs hk] at key
                  rw [← hms.out, hct.out]
                  first | (rw [show x.extract Nt x.size = x.extract _ x.size from by rw [hNt.out]]; exact key _) | (rw [show x.extract Nt x.size = x from by rw [hNt.out]; exact ext_allI x]; exact key _)
                · exact (pw_below_drewN hbk nd).setCell hgb2 _
              case measure => simp [Go.RowKit.intOf]; omega
          · obtain rfl : k = xs.length := by omega
            have hma := mid_all Nt xs
            rw [hma] at hRk
            have hjj := Aside0.mk (hj.out (some ⟨g, 0, none⟩) cap wr (by have := (Kd.R_reads' hRk.out); rw [List.length_map] at this ⊢; exact this.2.2) (by have := (Kd.R_reads' hRk.out); rw [List.length_map]; exact this.2.1))
            rw [List.length_map] at hjj
            clear hma hj
            go_wp2_with (first | (go_at_call 56; refine hjj.out.mono ?_; rintro e w3 ⟨rfl, hb3⟩))
            go_ret3
            exact ⟨rfl, hbk.trans (hb3.mono hbk.size)⟩
theorem doc_Indent.calls (a0 : ByteArray) (r1 : ByteArray) (r2 r3 : Int) (w : World) (hL : LaidW w) (h : doc_Indent.f a0 = some (r1, r2, r3)) :
    Calls Tryd.prog 25 #[.string a0] w fun e w' => e = .returned (.tuple #[.string r1, .int .i64 r2, .int .i64 r3]) ∧ Below w.heap.size w w' := by
  unfold doc_Indent.f at h
  cases hq : doc_asked.f a0 with
  | none => rw [hq] at h; cases h
  | some e =>
    rw [hq] at h
    simp only at h
    split at h
    · rename_i h0
      subst h0
      split at h
      · rename_i hs
        simp only [Option.some.injEq, Prod.mk.injEq] at h
        obtain ⟨rfl, rfl, rfl⟩ := h
        exact Indent_good a0 w hL hq hs.1 hs.2.1 hs.2.2.1 hs.2.2.2
      · cases h
    · rename_i h0
      simp only [Option.some.injEq, Prod.mk.injEq] at h
      obtain ⟨rfl, rfl, rfl⟩ := h
      exact Indent_bad a0 e w hL hq h0
end Go.Proofs.YthdalpminhbckaaDoor.G
