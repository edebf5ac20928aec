/- What the functions of this seat's program that map characters, or write them, give. -/
import Derived.Test.YtegapacamclipaaGreatDoorForms
set_option linter.unusedVariables false
set_option linter.unusedSimpArgs false
namespace Go.Proofs.YtegapacamclipaaGreatDoor.G
open Go.RowKit Go.Proofs.YtegapacamclipaaGreatDoorW.PrintWords Go.Proofs.YtegapacamclipaaGreatDoor.Tx Go.Lib

def mapL (F : Int → List UInt8) (cs : List Int) : List UInt8 := cs.flatMap F
theorem mapL_cons (F : Int → List UInt8) (c : Int) (cs : List Int) : mapL F (c :: cs) = F c ++ mapL F cs := by simp [mapL]
theorem alloc_at (w : World) (o : Obj) (k : Nat) (h : k = w.heap.size) : (w.alloc o).heap[k]? = some o := by subst h; exact heap_alloc_new w o

set_option maxHeartbeats 2000000 in
set_option maxRecDepth 100000 in
theorem mapped_any (g : Nat) (F : Int → List UInt8) (eg : ∀ args w, (callFunc g args).run Tryz.prog w = .ok (.enter g args) w)
    (hF : ∀ (c : Int) (W : World), chr c → Calls Tryz.prog g #[.int .i64 c] W fun e W' => e = .returned (.string ⟨(F c).toArray⟩) ∧ W' = W) (hlen : ∀ c, (F c).length ≤ 4)
    (a0 : ByteArray) (w : World) (hs : a0.size ≤ 17592186044415) :
    Calls Tryz.prog 21 #[.string a0, .func (.func g) #[] #[]] w fun e w' => e = .returned (.string ⟨(mapL F (runes a0.data.toList)).toArray⟩) ∧ Below w.heap.size w w' := by
  go_enter Tryz.func21, Tryz.ntmps21
  go_wp2_with fail
  go_loopw [] (fun wr => ∃ (pos : Nat) (acc : List UInt8), Aside0 (IsB w.heap.size w.heap.size (byteCells acc) wr) ∧ pos ≤ a0.size ∧ acc.length ≤ 4 * pos ∧ wr.heap[w.heap.size + 1]? = some (.stringIter a0 pos) ∧ Below w.heap.size w wr ∧ Aside0 (acc ++ mapL F (runes (a0.data.toList.drop pos)) = mapL F (runes a0.data.toList))) (fun wr => a0.size - wr.iterPos (w.heap.size + 1))
  case atStart =>
    refine ⟨0, [], ⟨(IsBuilderF.of (fresh_isBuilder 40 5 w)).alloc _⟩, by omega, by simp, ?_, ((Below.refl _ w).alloc (Nat.le_refl _) _).alloc (by simp) _, ⟨by simp⟩⟩
    have := World.iter_heap (w.alloc (.cells #[.pointer none, .slice none 0 0] 40)) a0 0
    simpa using this
  case round =>
    obtain ⟨pos, acc, hI, hpl, hal, hit, hbw, hv⟩ := hrel
    have hszr : w.heap.size + 1 < wr.heap.size := (Array.getElem?_eq_some_iff.1 hit).1
    by_cases hp : pos < a0.size
    · have hnx : ∀ ty, (Instr.next (.pointer (some ⟨w.heap.size + 1, 0, none⟩)) true ty).run Tryz.prog wr = _ := fun ty => run_next_any_at wr (w.heap.size + 1) a0 pos ty hit hp
      rw [dec_eq] at hnx
      have hne := Aside0.mk (drop_ne hp)
      have hwd := dec_width (a0.data.toList.drop pos)
      have hsm := dec_small (a0.data.toList.drop pos)
      have hch := Aside0.mk (dec_chr (a0.data.toList.drop pos))
      have hft := dec_fits _ hne.out
      rw [List.length_drop, ← size_len] at hft
      have hwdr := Aside0.mk (List.drop_drop (l := a0.data.toList) (i := (dec (a0.data.toList.drop pos)).2) (j := pos))
      have hrc := Aside0.mk (runes_cons hne.out)
      generalize hd : dec (a0.data.toList.drop pos) = d at *
      obtain ⟨c, k⟩ := d
      simp only at *
      have hit2 := iterAt_heap wr (w.heap.size + 1) a0 pos (pos + k) hit
      have hbw2 := Aside0.mk (below_iterAt hbw (k := w.heap.size + 1) (by omega) a0 (pos + k))
      have hI2 := Aside0.mk (IsBuilderF.iterAt hI.out hit (pos + k))
      have hsz2 := hbw2.out.size
      have hl4 := hlen (c : Int)
      clear hd
      go_wp2_with (go_at_fn g; refine (hF (c : Int) _ hch.out).mono ?_; rintro e w1 ⟨rfl, rfl⟩)
      go_wp2_with (go_at_call 25; refine (writeString_any w.heap.size w.heap.size (byteCells acc) _ _ hI2.out (by rw [byteCells_length]; simp [ByteArray.size]; omega) (by omega)).mono ?_)
      rintro e w1 ⟨rfl, h1, hb1, hk1⟩
      have hi1 : w1.heap[w.heap.size + 1]? = some (.stringIter a0 (pos + k)) := hk1.iter hit2 (by omega)
      have h1 := Aside0.mk h1
      clear hk1
      go_wp2
      go_roundw
      case rel =>
        refine ⟨pos + k, acc ++ F (c : Int), ⟨?_⟩, by omega, by simp; omega, hi1, hbw2.out.trans hb1, ⟨?_⟩⟩
        · have h2 := h1.out
          rw [strCells_eq] at h2
          rw [byteCells_append]
          exact Or.inr h2
        · rw [← hv.out, hrc.out, hwdr.out, mapL_cons]
          simp
      case measure =>
        simp only [World.iterPos, hi1, hit]
        omega
    · have hnx : ∀ ty, (Instr.next (.pointer (some ⟨w.heap.size + 1, 0, none⟩)) true ty).run Tryz.prog wr = _ := fun ty => run_next_end_at wr (w.heap.size + 1) a0 pos ty hit hp
      have hv2 : mapL F (runes a0.data.toList) = acc := by
        rw [← hv.out, List.drop_of_length_le (by rw [← size_len]; omega), runes_nil]
        simp [mapL]
      go_wp2_with (go_at_call 26; refine (Tryz.Builder_String_any_k w.heap.size w.heap.size acc _ hI.out (by omega)).mono ?_)
      rintro e w1 ⟨rfl, _, b1, _⟩
      go_wp2
      go_ret
      exact ⟨ret_str (by rw [hv2]), hbw.trans b1⟩

theorem capU_len (c : Int) : (capU c).length ≤ 4 := by
  have h1 := encodeRune_length c
  have h2 := encodeRune_length (c - 32)
  unfold capU ligU
  repeat' split
  all_goals first | omega | simp
theorem lowU_len (c : Int) : (lowU c).length ≤ 4 := (encodeRune_length _).2
theorem foldU_len (c : Int) : (foldU c).length ≤ 4 := by
  have h1 := encodeRune_length (smallI c)
  unfold foldU ligL
  repeat' split
  all_goals first | omega | simp

def mapped_capital.f (a0 : ByteArray) : Option ByteArray := if a0.size ≤ 17592186044415 then some ⟨(mapL capU (runes a0.data.toList)).toArray⟩ else none
theorem mapped_capital.calls (a0 : ByteArray) (r : ByteArray) (w : World) (h : mapped_capital.f a0 = some r) :
    Calls Tryz.prog 21 #[.string a0, .func (.func 32) #[] #[]] w fun e w' => e = .returned (.string r) ∧ Below w.heap.size w w' := by
  unfold mapped_capital.f at h
  split at h
  case isFalse => cases h
  case isTrue hs =>
  obtain rfl := Option.some.inj h
  exact mapped_any _ capU (enters_of Tryz.func32 (by kernel_rfl) rfl) (fun c W hc => capital_any c W hc) capU_len a0 w hs
def mapped_lowered.f (a0 : ByteArray) : Option ByteArray := if a0.size ≤ 17592186044415 then some ⟨(mapL lowU (runes a0.data.toList)).toArray⟩ else none
theorem mapped_lowered.calls (a0 : ByteArray) (r : ByteArray) (w : World) (h : mapped_lowered.f a0 = some r) :
    Calls Tryz.prog 21 #[.string a0, .func (.func 35) #[] #[]] w fun e w' => e = .returned (.string r) ∧ Below w.heap.size w w' := by
  unfold mapped_lowered.f at h
  split at h
  case isFalse => cases h
  case isTrue hs =>
  obtain rfl := Option.some.inj h
  exact mapped_any _ lowU (enters_of Tryz.func35 (by kernel_rfl) rfl) (fun c W hc => lowered_any c W hc) lowU_len a0 w hs
def mapped_FoldOf.f (a0 : ByteArray) : Option ByteArray := if a0.size ≤ 17592186044415 then some ⟨(mapL foldU (runes a0.data.toList)).toArray⟩ else none
theorem mapped_FoldOf.calls (a0 : ByteArray) (r : ByteArray) (w : World) (h : mapped_FoldOf.f a0 = some r) :
    Calls Tryz.prog 21 #[.string a0, .func (.func 31) #[] #[]] w fun e w' => e = .returned (.string r) ∧ Below w.heap.size w w' := by
  unfold mapped_FoldOf.f at h
  split at h
  case isFalse => cases h
  case isTrue hs =>
  obtain rfl := Option.some.inj h
  exact mapped_any _ foldU (enters_of Tryz.func31 (by kernel_rfl) rfl) (fun c W hc => FoldOf_any c W hc) foldU_len a0 w hs

def chars_capital.f (a0 : Int) : Option ByteArray := if chr a0 then some ⟨(capU a0).toArray⟩ else none
theorem chars_capital.calls (a0 : Int) (r : ByteArray) (w : World) (h : chars_capital.f a0 = some r) :
    Calls Tryz.prog 32 #[.int .i64 a0] w fun e w' => e = .returned (.string r) ∧ Drawn0 w w' := by
  unfold chars_capital.f at h
  split at h
  case isFalse => cases h
  case isTrue hs =>
  obtain rfl := Option.some.inj h
  exact (capital_any a0 w hs).mono fun e w' ⟨h1, h2⟩ => ⟨h1, h2 ▸ Drawn0.refl _⟩

theorem enc_take_succ (l : List Int) (k : Nat) (h : k < l.length) : enc (l.take (k + 1)) = enc (l.take k) ++ encodeRune (l.getD k 0) := by
  rw [List.take_succ_eq_append_getElem h, enc_append, enc_cons, enc_nil, List.append_nil, List.getD_eq_getElem?_getD, List.getElem?_eq_getElem h]
  rfl
def allChr (l : List Int) : Prop := ∀ c ∈ l, chr c
instance (l : List Int) : Decidable (allChr l) := by unfold allChr; exact inferInstance
theorem allChr_at {l : List Int} (h : allChr l) (k : Nat) (hk : k < l.length) : chr (l.getD k 0) := by
  rw [List.getD_eq_getElem?_getD, List.getElem?_eq_getElem hk]
  exact h _ (List.getElem_mem hk)
def chars_text.f (l0 : List Int) : Option ByteArray := if allChr l0 ∧ l0.length ≤ 17592186044415 then some ⟨(enc l0).toArray⟩ else none
set_option maxHeartbeats 2000000 in
set_option maxRecDepth 100000 in
theorem chars_text.calls (A0 : Option Addr) (c0 : Nat) (l0 : List Int) (r : ByteArray) (w : World) (hr0 : Kd.C (Kd.int .i64) w A0 l0.length l0) (hc0 : l0.length ≤ c0) (h : chars_text.f l0 = some r) :
    Calls Tryz.prog 34 #[.slice A0 l0.length c0] w fun e w' => e = .returned (.string r) ∧ Below w.heap.size w w' := by
  unfold chars_text.f at h
  split at h
  case isFalse => cases h
  case isTrue hs =>
  obtain rfl := Option.some.inj h
  obtain ⟨hch0, hlen⟩ := hs
  have hch := Aside0.mk hch0
  have hR := Aside0.mk hr0
  clear hch0 hr0 h
  go_enter Tryz.func34, Tryz.ntmps34
  go_wp2_with fail
  go_loopw [8] (fun v wr => ∃ k : Nat, v = .int .i64 k ∧ k ≤ l0.length ∧ Aside0 (IsB w.heap.size w.heap.size (byteCells (enc (l0.take k))) wr) ∧ Below w.heap.size w wr) (fun v _ => l0.length - (Go.RowKit.intOf v).toNat)
  case atStart =>
    exact ⟨0, rfl, by omega, ⟨(IsBuilderF.of (fresh_isBuilder 40 5 w))⟩, (Below.refl _ w).alloc (Nat.le_refl _) _⟩
  case round =>
    obtain ⟨k, rfl, hk, hI, hbw⟩ := hrel
    have hsz := hbw.size
    by_cases hlt : k < l0.length
    · have hck := Aside0.mk (allChr_at hch.out k hlt)
      have hes := Aside0.mk (enc_take_succ l0 k hlt)
      have hb : 0 ≤ l0.getD k 0 ∧ l0.getD k 0 ≤ 1114111 := by have := hck.out; unfold chr at this; omega
      obtain ⟨ad, e0, hcell⟩ := Kd.at_int (Kd.C_below hR.out hbw) (k : Int) (by omega) (by omega)
      rw [rd, Int.toNat_natCast] at hcell
      cases e0
      obtain ⟨hb0, hb1⟩ := hb
      generalize l0.getD k 0 = c at *
      have hw := Aside0.mk (enc_length (l0.take k))
      have hlk : (l0.take k).length ≤ k := List.length_take_le _ _
      have hbl : (enc (l0.take k)).length + 4 ≤ 140737488355328 := by have := hw.out; omega
      go_wp2_with (go_at_call 30; refine (writeRune_any w.heap.size w.heap.size (byteCells (enc (l0.take k))) c (by omega) (by omega) _ hI.out (by rw [byteCells_length]; omega) (by omega)).mono ?_)
      rintro e w1 ⟨⟨m, rfl⟩, h1, hb1, hk1⟩
      have h1 := Aside0.mk h1
      clear hk1
      go_wp2
      go_roundw
      case rel =>
        refine ⟨k + 1, by go_num, by omega, ⟨?_⟩, hbw.trans hb1⟩
        rw [hes.out, byteCells_append, byteCells_encodeRune]
        exact Or.inr h1.out
      case measure => simp [Go.RowKit.intOf]; omega
    · have hv2 : Aside0 (enc (l0.take k) = enc l0) := ⟨by rw [List.take_of_length_le (by omega)]⟩
      go_wp2_with (go_at_call 26; refine (Tryz.Builder_String_any_k w.heap.size w.heap.size (enc (l0.take k)) _ hI.out (by omega)).mono ?_)
      rintro e w1 ⟨rfl, _, b1, _⟩
      go_wp2
      go_ret
      exact ⟨ret_str (by rw [hv2.out]), hbw.trans b1⟩
end Go.Proofs.YtegapacamclipaaGreatDoor.G
