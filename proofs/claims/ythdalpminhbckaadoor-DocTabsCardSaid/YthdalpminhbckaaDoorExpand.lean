/- doc: Expand, with its closure: walked by hand. -/
import Derived.Test.YthdalpminhbckaaDoorTabs
import Derived.Test.YthdalpminhbckaaDoorTabQ
import Derived.Deep.QuietTactic
import Derived.BigQuiet
import Derived.Lib.BufferKept
set_option linter.unusedVariables false
set_option linter.unusedSimpArgs false
namespace Go.Proofs.YthdalpminhbckaaDoor.G
open Go.RowKit Go.Proofs.YthdalpminhbckaaDoorW.PrintWords Go.Proofs.YthdalpminhbckaaDoor.Tx Go.Lib Go.Proofs.YthdalpminhbckaaDoor.Tabs Go.Proofs.YthdalpminhbckaaDoor.K
theorem ex10 (tab : Nat) (r : List Int) (col : Nat) : enc (expR tab (10 :: r) col) = [10] ++ enc (expR tab r 0) := by
  rw [expR, if_pos rfl, enc_cons, e10]
theorem ex9 (tab : Nat) (r : List Int) (col : Nat) : enc (expR tab (9 :: r) col) = List.replicate (tab - col % tab) 32 ++ enc (expR tab r (col + (tab - col % tab))) := by
  rw [expR, if_neg (by omega), if_pos rfl, enc_append, enc_rep]
theorem exc (tab : Nat) (c : Int) (r : List Int) (col : Nat) (h : ¬ c = 10) (h9 : ¬ c = 9) : enc (expR tab (c :: r) col) = encodeRune c ++ enc (expR tab r (col + 1)) := by
  rw [expR, if_neg h, if_neg h9, enc_cons]
theorem tab_w3 (tab col : Nat) (h1 : 1 ≤ tab) (h2 : tab ≤ 16) (h : col ≤ 1000000) : wrap64 (wrap64 ((col : Int) - (col : Int) % (tab : Int)) + (tab : Int)) = ((col + (tab - col % tab) : Nat) : Int) := by
  have hml : col % tab < tab := Nat.mod_lt _ (by omega)
  have hle : col % tab ≤ col := Nat.mod_le _ _
  rw [← Int.natCast_emod]
  generalize col % tab = m at *
  have e : wrap64 ((col : Int) - (m : Int)) = (col : Int) - (m : Int) := by unfold wrap64; omega
  rw [e]
  unfold wrap64; omega
set_option maxHeartbeats 1000000 in
set_option maxRecDepth 100000 in
theorem exp_c9 (B b k : Nat) (bs : List UInt8) (col tab : Nat) (h1 : 1 ≤ tab) (h2 : tab ≤ 16) (w : World) (h : Aside0 (IsB B b (byteCells bs) w)) (hk : w.cell? ⟨k, 0, none⟩ = some (.int .i64 (tab : Int))) (hlen : bs.length + 16 ≤ 140737488355328) (hBw : B ≤ w.heap.size) (hcol : col ≤ 1000000) :
    Calls Tryd.prog 51 #[.pointer (some ⟨b, 0, none⟩), .int .i32 9, .int .i64 col, .pointer (some ⟨k, 0, none⟩)] w fun e w' => e = .returned (.int .i64 ((col + (tab - col % tab) : Nat) : Int)) ∧ (AtB B b (.pointer (some ⟨b, 0, none⟩)) (byteCells (bs ++ List.replicate (tab - col % tab) 32)) w' ∧ Below B w w' ∧ Kept1 b w w') := by
  have hw3 := Aside0.mk (tab_w3 tab col h1 h2 hcol)
  obtain ⟨m, hm⟩ : ∃ m : Nat, tab - col % tab = m := ⟨_, rfl⟩
  rw [hm] at hw3 ⊢
  have hmle : m ≤ 16 := by omega
  clear hm
  have hrep := Aside0.mk (fun W => rep_calls m W (by omega))
  have hsub : ((col + m : Nat) : Int) - (col : Int) = (m : Int) := by omega
  obtain ⟨nx, hnx⟩ : ∃ nx : Nat, col + m = nx := ⟨_, rfl⟩
  rw [hnx] at hw3 hsub ⊢
  have hnxl : nx ≤ 1000016 := by omega
  clear hnx
  have hsub := Aside0.mk hsub
  have hdr : ∀ n, Aside0 ((w.drewN n).cell? ⟨k, 0, none⟩ = some (.int .i64 (tab : Int))) := fun n => ⟨by rw [World.cell?_drewN]; exact hk⟩
  go_enter Tryd.func51, Tryd.ntmps51
  go_wp2_with fail
  go_quiet (fail)
  rw [hw3.out]
  clear hw3
  have hsub2 := hsub.out
  clear hsub
  go_wp2_with fail
  have hbq : Below w.heap.size w (w.drewN nq) := pw_below_drewN (Below.refl _ w) nq
  have hI2 := Aside0.mk (IsBuilderF.below h.out hbq)
  have hsq : (w.drewN nq).heap.size = w.heap.size := rfl
  generalize w.drewN nq = w0 at *
  clear hdr
  go_wp2_with (go_at_call 53; refine (hrep.out _).mono ?_; rintro e w1 ⟨rfl, hb1⟩)
  have hI3 := Aside0.mk (IsBuilderF.below hI2.out hb1)
  have hs3 := hb1.size
  have hws := Aside0.mk (writeString_any B b (byteCells bs) (rep m) w1 hI3.out (by rw [byteCells_length, rep_size]; omega) (by omega))
  go_wp2_with (go_at_call 44; refine hws.out.mono ?_; rintro e w2 ⟨rfl, h2b, hb2, hk2⟩)
  go_ret
  refine ⟨rfl, by rw [byteCells_append]; exact h2b, ((hbq.mono hBw).trans (hb1.mono (by omega))).trans hb2, ?_⟩
  exact (((Lib.OthersKept.refl _ _ w).below hbq).below hb1).trans hk2
set_option maxHeartbeats 1000000 in
set_option maxRecDepth 100000 in
theorem exp_cc (B b k c : Nat) (bs : List UInt8) (col tab : Nat) (w : World) (hc9 : ¬ c = 9) (hc : c ≤ 1114111) (h : Aside0 (IsB B b (byteCells bs) w)) (hlen : bs.length + 16 ≤ 140737488355328) (hBw : B ≤ w.heap.size) (hcol : col ≤ 1000000) :
    Calls Tryd.prog 51 #[.pointer (some ⟨b, 0, none⟩), .int .i32 c, .int .i64 col, .pointer (some ⟨k, 0, none⟩)] w fun e w' => e = .returned (.int .i64 ((col + 1 : Nat) : Int)) ∧ (AtB B b (.pointer (some ⟨b, 0, none⟩)) (byteCells (bs ++ encodeRune (c : Int))) w' ∧ Below B w w' ∧ Kept1 b w w') := by
  have h9 : (((c : Nat) : Int) != 9) = true := by simp; omega
  have hwr := Aside0.mk (writeRune_any B b (byteCells bs) (c : Int) (by omega) (by omega) w h.out (by rw [byteCells_length]; omega) hBw)
  go_enter Tryd.func51, Tryd.ntmps51
  go_wp2_with (go_at_call 52; refine hwr.out.mono ?_; rintro e w3 ⟨⟨m, rfl⟩, h3b, hb3, hk3⟩)
  go_ret
  exact ⟨by congr 2, by rw [byteCells_append, byteCells_encodeRune]; exact h3b, hb3, hk3⟩
set_option maxHeartbeats 2000000 in
set_option maxRecDepth 100000 in
theorem tabbed_any (a0 : ByteArray) (tab k : Nat) (h1 : 1 ≤ tab) (h2 : tab ≤ 16) (w : World) (hs : a0.size ≤ 4096) (hk : w.cell? ⟨k, 0, none⟩ = some (.int .i64 (tab : Int))) (hkw : k < w.heap.size) (tv : Int) :
    Calls Tryd.prog 50 #[.string a0, .int .i64 tv, .func (.func 51) #[] #[.pointer (some ⟨k, 0, none⟩)]] w fun e w' => e = .returned (.string ⟨(enc (expR tab (runes a0.data.toList) 0)).toArray⟩) ∧ Below w.heap.size w w' := by
  have hkA := Aside0.mk hk
  clear hk
  go_enter Tryd.func50, Tryd.ntmps50
  go_wp2_with fail
  go_loopw [8] (fun cv wr => ∃ (pos col : Nat) (acc : List UInt8), cv = .int .i64 col ∧ Aside0 (IsB w.heap.size w.heap.size (byteCells acc) wr) ∧ pos ≤ a0.size ∧ acc.length ≤ 16 * pos ∧ col ≤ 17 * pos ∧ wr.heap[w.heap.size + 1]? = some (.stringIter a0 pos) ∧ Below w.heap.size w wr ∧ Aside0 (acc ++ enc (expR tab (runes (a0.data.toList.drop pos)) col) = enc (expR tab (runes a0.data.toList) 0))) (fun _ wr => a0.size - wr.iterPos (w.heap.size + 1))
  case atStart =>
    refine ⟨0, 0, [], rfl, ⟨(IsBuilderF.of (fresh_isBuilder 51 5 w)).alloc _⟩, by omega, by simp, by omega, ?_, ((Below.refl _ w).alloc (Nat.le_refl _) _).alloc (by simp) _, ⟨by simp⟩⟩
    have := World.iter_heap (w.alloc (.cells #[.pointer none, .slice none 0 0] 51)) a0 0
    simpa using this
  case round =>
    obtain ⟨pos, col, acc, rfl, hI, hpl, hal, hcl, hit, hbw, hv⟩ := hrel
    have hszr : w.heap.size + 1 < wr.heap.size := (Array.getElem?_eq_some_iff.1 hit).1
    by_cases hp : pos < a0.size
    · have hnx : ∀ ty, (Instr.next (.pointer (some ⟨w.heap.size + 1, 0, none⟩)) true ty).run Tryd.prog wr = _ := fun ty => run_next_any_at wr (w.heap.size + 1) a0 pos ty hit hp
      rw [dec_eq] at hnx
      have hne := Aside0.mk (drop_ne hp)
      have hwd := dec_width (a0.data.toList.drop pos)
      have hsm := dec_small (a0.data.toList.drop pos)
      have hft := dec_fits _ hne.out
      rw [List.length_drop, ← size_len] at hft
      have hwdr := Aside0.mk (List.drop_drop (l := a0.data.toList) (i := (dec (a0.data.toList.drop pos)).2) (j := pos))
      have hrc := Aside0.mk (runes_cons hne.out)
      generalize hd : dec (a0.data.toList.drop pos) = d at *
      obtain ⟨c, kk⟩ := d
      simp only at *
      have hit2 := iterAt_heap wr (w.heap.size + 1) a0 pos (pos + kk) hit
      have hbw2 := Aside0.mk (below_iterAt hbw (k := w.heap.size + 1) (by omega) a0 (pos + kk))
      have hI2 := Aside0.mk (IsBuilderF.iterAt hI.out hit (pos + kk))
      have hsz2 := hbw2.out.size
      have hbx := Aside0.mk ((hbw2.out.cell (p := ⟨k, 0, none⟩) hkw).trans hkA.out)
      clear hd
      have hcb : (((c : Nat) : Int) == 10) = true ∨ (((c : Nat) : Int) == 10) = false := by cases (((c : Nat) : Int) == 10) <;> simp
      have hit3 := Aside0.mk hit2
      clear hit2
      rcases hcb with hcb | hcb
      · have hci := Aside0.mk (beq_iff_eq.1 hcb)
        have hwb := Aside0.mk (writeByte_any w.heap.size w.heap.size (byteCells acc) 10 _ hI2.out (by rw [byteCells_length]; omega) (by omega))
        go_wp2_with (go_at_call 42; refine hwb.out.mono ?_; rintro e w1 ⟨rfl, h1b, hb1, hk1⟩)
        have hi1 : w1.heap[w.heap.size + 1]? = some (.stringIter a0 (pos + kk)) := hk1.iter hit3.out (by omega)
        go_roundw
        case rel => exact ⟨pos + kk, 0, acc ++ [10], rfl, ⟨by rw [byteCells_append]; exact Or.inr h1b⟩, by omega, by simp; omega, by omega, hi1, hbw2.out.trans hb1, ⟨by rw [← hv.out, hrc.out, hwdr.out, hci.out, ex10]; simp⟩⟩
        case measure => simp only [World.iterPos, hi1, hit]; omega
      · have hci := Aside0.mk (show ¬ ((c : Nat) : Int) = 10 from fun h => by rw [h] at hcb; simp at hcb)
        by_cases hc9 : c = 9
        · subst hc9
          have hml : tab - col % tab ≤ 16 := by omega
          have hex := Aside0.mk (ex9 tab (runes ((a0.data.toList.drop pos).drop kk)) col)
          have hcl9 := Aside0.mk (exp_c9 w.heap.size w.heap.size k acc col tab h1 h2 _ hI2 hbx.out (by omega) (by omega) (by omega))
          obtain ⟨m, hm⟩ : ∃ m : Nat, tab - col % tab = m := ⟨_, rfl⟩
          rw [hm] at hex hcl9 hml
          clear hm
          go_wp2_with (go_at_call 51; refine hcl9.out.mono ?_; rintro e w1 ⟨rfl, h1b, hb1, hk1⟩)
          have hi1 : w1.heap[w.heap.size + 1]? = some (.stringIter a0 (pos + kk)) := hk1.iter hit3.out (by omega)
          go_roundw
          case rel => exact ⟨pos + kk, col + m, acc ++ List.replicate m 32, by simp, ⟨Or.inr h1b⟩, by omega, by simp; omega, by omega, hi1, hbw2.out.trans hb1, ⟨by rw [← hv.out, hrc.out, show (((9 : Nat) : Int)) = 9 from rfl, hex.out, hwdr.out]; simp⟩⟩
          case measure => simp only [World.iterPos, hi1, hit]; omega
        · have hex := Aside0.mk (exc tab (c : Int) (runes ((a0.data.toList.drop pos).drop kk)) col hci.out (by omega))
          have hcl9 := Aside0.mk (exp_cc w.heap.size w.heap.size k c acc col tab _ hc9 (by omega) hI2 (by omega) (by omega) (by omega))
          have hel := (encodeRune_length (c : Int)).2
          go_wp2_with (go_at_call 51; refine hcl9.out.mono ?_; rintro e w1 ⟨rfl, h1b, hb1, hk1⟩)
          have hi1 : w1.heap[w.heap.size + 1]? = some (.stringIter a0 (pos + kk)) := hk1.iter hit3.out (by omega)
          go_roundw
          case rel => exact ⟨pos + kk, col + 1, acc ++ encodeRune (c : Int), by simp, ⟨Or.inr h1b⟩, by omega, by simp; omega, by omega, hi1, hbw2.out.trans hb1, ⟨by rw [← hv.out, hrc.out, hex.out, hwdr.out]; simp⟩⟩
          case measure => simp only [World.iterPos, hi1, hit]; omega
    · have hnx : ∀ ty, (Instr.next (.pointer (some ⟨w.heap.size + 1, 0, none⟩)) true ty).run Tryd.prog wr = _ := fun ty => run_next_end_at wr (w.heap.size + 1) a0 pos ty hit hp
      have hsz := hbw.size
      have hv2 := Aside0.mk (show enc (expR tab (runes a0.data.toList) 0) = acc by
        rw [← hv.out, List.drop_of_length_le (by rw [← size_len]; omega), runes_nil]
        simp [expR, enc])
      go_wp2_with (go_at_call 47; refine (Tryd.Builder_String_any_k w.heap.size w.heap.size acc wr hI.out (by omega)).mono ?_; rintro e w3 ⟨rfl, _, b1, _⟩)
      go_ret
      exact ⟨congrArg (fun l : List UInt8 => Ending.returned (.string ⟨l.toArray⟩)) hv2.out.symm, hbw.trans b1⟩
def doc_Expand.f (a0 : ByteArray) (a1 : Int) : Option (ByteArray × Int) := match doc_asked.f a0 with
  | none => none
  | some e => if e = 0 then (if a0.size ≤ 4096 then (if a1 < 1 ∨ a1 > 16 then some (⟨#[]⟩, 1) else if 4096 < (enc (expR a1.toNat (runes a0.data.toList) 0)).length then some (⟨#[]⟩, 3) else some (⟨(enc (expR a1.toNat (runes a0.data.toList) 0)).toArray⟩, 0)) else none) else some (⟨#[]⟩, e)
set_option maxHeartbeats 2000000 in
set_option maxRecDepth 100000 in
theorem Expand_bad (a0 : ByteArray) (e0 : Int) (a1 : Int) (w : World) (hL : LaidW w) (hq : doc_asked.f a0 = some e0) (he : ¬ e0 = 0) :
    Calls Tryd.prog 22 #[.string a0, .int .i64 a1] w fun e' w' => e' = .returned (.tuple #[.string ⟨#[]⟩, .int .i64 e0]) ∧ Below w.heap.size w w' := by
  have hask := Aside0.mk (fun w hL => doc_asked.calls a0 e0 w hL hq)
  have hA := Aside0.mk ((Below.refl w.heap.size w).alloc (Nat.le_refl _) (.cells #[.int .i64 a1] 3))
  have c1 : (e0 == 0) = false := beq_eq_false_iff_ne.2 he
  have c2 : (e0 != 0) = true := bne_iff_ne.2 he
  clear hq he
  go_enter Tryd.func22, Tryd.ntmps22
  go_wp2_with (go_at_call 36; refine (hask.out _ (hL.below hA.out)).mono ?_; rintro e w1 ⟨rfl, hb1⟩)
  go_ret2
  exact ⟨rfl, hA.out.trans (hb1.mono hA.out.size)⟩
set_option maxHeartbeats 2000000 in
set_option maxRecDepth 100000 in
theorem Expand_arg (a0 : ByteArray) (a1 : Int) (w : World) (hL : LaidW w) (hq : doc_asked.f a0 = some 0) (ha : a1 < 1 ∨ a1 > 16) :
    Calls Tryd.prog 22 #[.string a0, .int .i64 a1] w fun e' w' => e' = .returned (.tuple #[.string ⟨#[]⟩, .int .i64 1]) ∧ Below w.heap.size w w' := by
  have hask := Aside0.mk (fun w hL => doc_asked.calls a0 0 w hL hq)
  have hA := Aside0.mk ((Below.refl w.heap.size w).alloc (Nat.le_refl _) (.cells #[.int .i64 a1] 3))
  have hcA := Aside0.mk (show (w.alloc (.cells #[.int .i64 a1] 3)).cell? ⟨w.heap.size, 0, none⟩ = some (.int .i64 a1) by simp only [World.cell?]; rw [heap_alloc_new]; rfl)
  clear hq
  rcases ha with ha | ha
  all_goals
    go_enter Tryd.func22, Tryd.ntmps22
    go_wp2_with (go_at_call 36; refine (hask.out _ (hL.below hA.out)).mono ?_; rintro e w1 ⟨rfl, hb1⟩; have hcc := (hb1.cell (p := ⟨w.heap.size, 0, none⟩) (by simp)).trans hcA.out)
    go_ret2
    exact ⟨rfl, hA.out.trans (hb1.mono hA.out.size)⟩
set_option maxHeartbeats 2000000 in
set_option maxRecDepth 100000 in
theorem Expand_good (a0 : ByteArray) (tab : Nat) (w : World) (hL : LaidW w) (hq : doc_asked.f a0 = some 0) (h1 : 1 ≤ tab) (h2 : tab ≤ 16) (hs : a0.size ≤ 4096) :
    Calls Tryd.prog 22 #[.string a0, .int .i64 tab] w fun e' w' => e' = .returned (.tuple (if 4096 < (enc (expR tab (runes a0.data.toList) 0)).length then #[.string ⟨#[]⟩, .int .i64 3] else #[.string ⟨(enc (expR tab (runes a0.data.toList) 0)).toArray⟩, .int .i64 0])) ∧ Below w.heap.size w w' := by
  have hask := Aside0.mk (fun w hL => doc_asked.calls a0 0 w hL hq)
  have hA := Aside0.mk ((Below.refl w.heap.size w).alloc (Nat.le_refl _) (.cells #[.int .i64 (tab : Int)] 3))
  have hcA := Aside0.mk (show (w.alloc (.cells #[.int .i64 (tab : Int)] 3)).cell? ⟨w.heap.size, 0, none⟩ = some (.int .i64 (tab : Int)) by simp only [World.cell?]; rw [heap_alloc_new]; rfl)
  have htb := Aside0.mk (fun W hk hkw tv => tabbed_any a0 tab w.heap.size h1 h2 W hs hk hkw tv)
  clear hq
  generalize enc (expR tab (runes a0.data.toList) 0) = out at *
  have hsz : (⟨out.toArray⟩ : ByteArray).size = out.length := by simp [ByteArray.size]
  obtain ⟨o, ho⟩ : ∃ o : ByteArray, o = ⟨out.toArray⟩ := ⟨_, rfl⟩
  rw [← ho] at hsz htb ⊢
  rw [← hsz]
  clear ho hsz
  have hmf : ∀ (fn : Fn) (first cap : Array Value) (w : World), (Instr.makeFunc fn first cap).run Tryd.prog w = .ok (.func fn first cap) w := fun _ _ _ _ => rfl
  by_cases hlen : 4096 < o.size
  · rw [if_pos hlen]
    go_enter Tryd.func22, Tryd.ntmps22
    go_wp2_with (first | (go_at_call 36; refine (hask.out _ (hL.below hA.out)).mono ?_; rintro e w1 ⟨rfl, hb1⟩; have hcc := (hb1.cell (p := ⟨w.heap.size, 0, none⟩) (by simp)).trans hcA.out; have hsw := hb1.size; simp at hsw) | (go_at_call 50; refine (htb.out _ hcc (by omega) _).mono ?_; rintro e w2 ⟨rfl, hb2⟩))
    go_ret2
    exact ⟨rfl, (hA.out.trans (hb1.mono hA.out.size)).trans (hb2.mono (by omega))⟩
  · rw [if_neg hlen]
    have hlen2 : o.size ≤ 4096 := by omega
    go_enter Tryd.func22, Tryd.ntmps22
    go_wp2_with (first | (go_at_call 36; refine (hask.out _ (hL.below hA.out)).mono ?_; rintro e w1 ⟨rfl, hb1⟩; have hcc := (hb1.cell (p := ⟨w.heap.size, 0, none⟩) (by simp)).trans hcA.out; have hsw := hb1.size; simp at hsw) | (go_at_call 50; refine (htb.out _ hcc (by omega) _).mono ?_; rintro e w2 ⟨rfl, hb2⟩))
    go_ret2
    exact ⟨rfl, (hA.out.trans (hb1.mono hA.out.size)).trans (hb2.mono (by omega))⟩
theorem doc_Expand.calls (a0 : ByteArray) (a1 : Int) (r1 : ByteArray) (r2 : Int) (w : World) (hL : LaidW w) (h : doc_Expand.f a0 a1 = some (r1, r2)) :
    Calls Tryd.prog 22 #[.string a0, .int .i64 a1] w fun e w' => e = .returned (.tuple #[.string r1, .int .i64 r2]) ∧ Below w.heap.size w w' := by
  unfold doc_Expand.f at h
  cases hq : doc_asked.f a0 with
  | none => rw [hq] at h; cases h
  | some e =>
    rw [hq] at h
    simp only at h
    by_cases h0 : e = 0
    · subst h0
      rw [if_pos rfl] at h
      by_cases hs : a0.size ≤ 4096
      · rw [if_pos hs] at h
        by_cases ha : a1 < 1 ∨ a1 > 16
        · rw [if_pos ha] at h
          simp only [Option.some.injEq, Prod.mk.injEq] at h
          obtain ⟨rfl, rfl⟩ := h
          exact Expand_arg a0 a1 w hL hq ha
        · rw [if_neg ha] at h
          obtain ⟨n, rfl⟩ := Int.eq_ofNat_of_zero_le (show 0 ≤ a1 by omega)
          have g := Expand_good a0 n w hL hq (by omega) (by omega) hs
          rw [Int.toNat_natCast] at h
          by_cases hl : 4096 < (enc (expR n (runes a0.data.toList) 0)).length
          · rw [if_pos hl] at h g
            simp only [Option.some.injEq, Prod.mk.injEq] at h
            obtain ⟨rfl, rfl⟩ := h
            exact g
          · rw [if_neg hl] at h g
            simp only [Option.some.injEq, Prod.mk.injEq] at h
            obtain ⟨rfl, rfl⟩ := h
            exact g
      · rw [if_neg hs] at h; cases h
    · rw [if_neg h0] at h
      simp only [Option.some.injEq, Prod.mk.injEq] at h
      obtain ⟨rfl, rfl⟩ := h
      exact Expand_bad a0 e a1 w hL hq h0
end Go.Proofs.YthdalpminhbckaaDoor.G
