/- chars.Escape's closure, and the text that it makes: walked by hand. -/
import Derived.Test.YtegapacamclipaaGreatDoorHexR
import Derived.Test.YtegapacamclipaaGreatDoorMaps
import Derived.Lib.AppendStr
set_option linter.unusedVariables false
set_option linter.unusedSimpArgs false
namespace Go.Proofs.YtegapacamclipaaGreatDoor.G
open Go.RowKit Go.Proofs.YtegapacamclipaaGreatDoorW.PrintWords Go.Proofs.YtegapacamclipaaGreatDoor.Tx Go.Lib
theorem atB_below {B b : Nat} {p : Value} {bs : List Value} {W W' : World} (h : Lib.BuilderAtF 40 5 B b p bs W) (hb : Below W.heap.size W W') : Lib.BuilderAtF 40 5 B b p bs W' := by
  have hlt := h.lt
  obtain ⟨hB, v, hv, hown, hne⟩ := h
  exact ⟨hB, v, (hb.block b hlt).trans hv, hown.kept (row := none) ⟨hb.os, hb.tape, hb.output, hb.size, fun k hk _ => hb.block k hk⟩ (Classical.em _), hne⟩
theorem isB_below {B b : Nat} {bs : List Value} {W W' : World} (h : IsB B b bs W) (hb : Below W.heap.size W W') : IsB B b bs W' :=
  h.elim (fun x => .inl (atB_below x hb)) (fun x => .inr (atB_below x hb))
/-- A character as it is escaped. -/
def escU (c : Int) : List UInt8 := if c = 92 then [92, 92] else if c < 32 ∨ 126 < c then [92, 120, 123] ++ hexL c.toNat ++ [125] else encodeRune c
theorem hexF_len : ∀ (n u : Nat) (l : List UInt8), (hexF n u l).length ≤ n + 1 + l.length
  | 0, u, l => by simp [hexF]; omega
  | n + 1, u, l => by
    rw [hexF]; split
    · simp; omega
    · have := hexF_len n (u / 16) (hexD (u % 16) :: l); simp at this; omega
theorem escU_len (c : Int) : (escU c).length ≤ 12 := by
  have h1 := hexF_len 6 c.toNat []
  have h2 := encodeRune_length c
  unfold escU hexL
  split
  · simp
  · split
    · simp at h1 ⊢; omega
    · omega
set_option maxHeartbeats 2000000 in
theorem esc_any (c : Int) (w : World) (hL : LaidW w) (hc : chr c) :
    Calls Tryz.prog 22 #[.int .i64 c] w fun e w' => e = .returned (.string ⟨(escU c).toArray⟩) ∧ Below w.heap.size w w' := by
  have hb : 0 ≤ c ∧ c ≤ 1114111 := by unfold chr at hc; omega
  by_cases h1 : c = 92
  · subst h1
    go_enter Tryz.func22, Tryz.ntmps22
    go_wp2
    go_ret
    exact ⟨rfl, Below.refl _ _⟩
  · by_cases h2 : c < 32 ∨ 126 < c
    · have e : escU c = [92, 120, 123] ++ hexL c.toNat ++ [125] := by unfold escU; rw [if_neg h1, if_pos h2]
      rw [e]
      obtain ⟨u, rfl⟩ := Int.eq_ofNat_of_zero_le hb.1
      have hf := Aside0.mk (fmt16 u (by omega) w hL.tz)
      have hl := hexF_len 6 u []
      rw [Int.toNat_natCast]
      have b1 : (((u : Nat) : Int) == 92) = false := by rw [beq_eq_false_iff_ne]; exact h1
      have hsz : (⟨(hexL u).toArray⟩ : ByteArray).size = (hexL u).length := by simp [ByteArray.size]
      have hl2 : (hexL u).length ≤ 7 := by simpa [hexL] using hl
      have hcat : (⟨#[92, 120, 123]⟩ : ByteArray) ++ ⟨(hexL u).toArray⟩ ++ ⟨#[125]⟩ = ⟨([92, 120, 123] ++ hexL u ++ [125]).toArray⟩ := by
        apply ByteArray.ext
        simp
      have hcA := Aside0.mk hcat
      clear hb hc e hL hl h1 hcat
      rcases Nat.lt_or_ge u 32 with h3 | h3
      · have b2 : decide (((u : Nat) : Int) < 32) = true := decide_eq_true (by omega)
        clear h2 h3
        go_enter Tryz.func22, Tryz.ntmps22
        go_wp2_with (go_at_call 23; refine hf.out.mono ?_; rintro e w1 ⟨rfl, hB⟩)
        go_ret
        exact ⟨ret_str hcA.out, hB⟩
      · have b2 : decide (((u : Nat) : Int) < 32) = false := decide_eq_false (by omega)
        have b3 : decide ((126 : Int) < ((u : Nat) : Int)) = true := decide_eq_true (by omega)
        clear h2 h3
        go_enter Tryz.func22, Tryz.ntmps22
        go_wp2_with (go_at_call 23; refine hf.out.mono ?_; rintro e w1 ⟨rfl, hB⟩)
        go_ret
        exact ⟨ret_str hcA.out, hB⟩
    · have e : escU c = encodeRune c := by unfold escU; rw [if_neg h1, if_neg h2]
      rw [e]
      have hs := str_of c hc
      have b1 : (c == 92) = false := by rw [beq_eq_false_iff_ne]; exact h1
      have b2 : decide (c < 32) = false := decide_eq_false (by omega)
      have b3 : decide ((126 : Int) < c) = false := decide_eq_false (by omega)
      clear hb hc e hL h1 h2
      go_enter Tryz.func22, Tryz.ntmps22
      go_wp2
      go_ret
      exact ⟨ret_str (by first | rfl | exact hs | simp [hs]), Below.refl _ _⟩
set_option maxHeartbeats 2000000 in
set_option maxRecDepth 100000 in
theorem mapped_anyB (g : Nat) (F : Int → List UInt8) (eg : ∀ args w, (callFunc g args).run Tryz.prog w = .ok (.enter g args) w)
    (hF : ∀ (c : Int) (W : World), LaidW W → chr c → Calls Tryz.prog g #[.int .i64 c] W fun e W' => e = .returned (.string ⟨(F c).toArray⟩) ∧ Below W.heap.size W W') (hlen : ∀ c, (F c).length ≤ 12)
    (a0 : ByteArray) (w : World) (hL : LaidW w) (hs : a0.size ≤ 5864062014805) :
    Calls Tryz.prog 21 #[.string a0, .func (.func g) #[] #[]] w fun e w' => e = .returned (.string ⟨(mapL F (runes a0.data.toList)).toArray⟩) ∧ Below w.heap.size w w' := by
  go_enter Tryz.func21, Tryz.ntmps21
  go_wp2_with fail
  go_loopw [] (fun wr => ∃ (pos : Nat) (acc : List UInt8), Aside0 (IsB w.heap.size w.heap.size (byteCells acc) wr) ∧ pos ≤ a0.size ∧ acc.length ≤ 12 * pos ∧ wr.heap[w.heap.size + 1]? = some (.stringIter a0 pos) ∧ Below w.heap.size w wr ∧ Aside0 (acc ++ mapL F (runes (a0.data.toList.drop pos)) = mapL F (runes a0.data.toList))) (fun wr => a0.size - wr.iterPos (w.heap.size + 1))
  case atStart =>
    refine ⟨0, [], ⟨(IsBuilderF.of (fresh_isBuilder 40 5 w)).alloc _⟩, by omega, by simp, ?_, ((Below.refl _ w).alloc (Nat.le_refl _) _).alloc (by simp) _, ⟨by simp⟩⟩
    have := World.iter_heap (w.alloc (.cells #[.pointer none, .slice none 0 0] 40)) a0 0
    simpa using this
  case round =>
    obtain ⟨pos, acc, hI, hpl, hal, hit, hbw, hv⟩ := hrel
    have hszr : w.heap.size + 1 < wr.heap.size := (Array.getElem?_eq_some_iff.1 hit).1
    by_cases hp : pos < a0.size
    · have hnx : ∀ ty, (Instr.next (.pointer (some ⟨w.heap.size + 1, 0, none⟩)) true ty).run Tryz.prog wr = _ := fun ty => run_next_any_at wr (w.heap.size + 1) a0 pos ty hit hp
      rw [dec_eq] at hnx
      have hne := Aside0.mk (drop_ne hp)
      have hwd := dec_width (a0.data.toList.drop pos)
      have hsm := dec_small (a0.data.toList.drop pos)
      have hch := Aside0.mk (dec_chr (a0.data.toList.drop pos))
      have hft := dec_fits _ hne.out
      rw [List.length_drop, ← size_len] at hft
      have hwdr := Aside0.mk (List.drop_drop (l := a0.data.toList) (i := (dec (a0.data.toList.drop pos)).2) (j := pos))
      have hrc := Aside0.mk (runes_cons hne.out)
      generalize hd : dec (a0.data.toList.drop pos) = d at *
      obtain ⟨c, k⟩ := d
      simp only at *
      have hit2 := iterAt_heap wr (w.heap.size + 1) a0 pos (pos + k) hit
      have hbw2 := Aside0.mk (below_iterAt hbw (k := w.heap.size + 1) (by omega) a0 (pos + k))
      have hI2 := Aside0.mk (IsBuilderF.iterAt hI.out hit (pos + k))
      have hsz2 := hbw2.out.size
      have hl4 := hlen (c : Int)
      clear hd
      have hLr := Aside0.mk (hL.below hbw2.out)
      have hFr := Aside0.mk (hF (c : Int) _ hLr.out hch.out)
      go_wp2_with (go_at_fn g; refine hFr.out.mono ?_; rintro e w0 ⟨rfl, hbf⟩)
      have hI3 := Aside0.mk (isB_below hI2.out hbf)
      have hs3 := hbf.size
      have hit3 : w0.heap[w.heap.size + 1]? = some (.stringIter a0 (pos + k)) := (hbf.block _ (by rw [iterAt_size]; exact hszr)).trans hit2
      have hsw3 : w.heap.size ≤ w0.heap.size := by omega
      have hbw3 := Aside0.mk (hbw2.out.trans (hbf.mono hsz2))
      go_wp2_with (go_at_call 25; refine (writeString_any w.heap.size w.heap.size (byteCells acc) _ _ hI3.out (by rw [byteCells_length]; simp [ByteArray.size]; omega) hsw3).mono ?_)
      rintro e w1 ⟨rfl, h1, hb1, hk1⟩
      have hi1 : w1.heap[w.heap.size + 1]? = some (.stringIter a0 (pos + k)) := hk1.iter hit3 (by omega)
      have h1 := Aside0.mk h1
      clear hk1
      go_wp2
      go_roundw
      case rel =>
        refine ⟨pos + k, acc ++ F (c : Int), ⟨?_⟩, by omega, by simp; omega, hi1, hbw3.out.trans hb1, ⟨?_⟩⟩
        · have h2 := h1.out
          rw [strCells_eq] at h2
          rw [byteCells_append]
          exact Or.inr h2
        · rw [← hv.out, hrc.out, hwdr.out, mapL_cons]
          simp
      case measure =>
        simp only [World.iterPos, hi1, hit]
        omega
    · have hnx : ∀ ty, (Instr.next (.pointer (some ⟨w.heap.size + 1, 0, none⟩)) true ty).run Tryz.prog wr = _ := fun ty => run_next_end_at wr (w.heap.size + 1) a0 pos ty hit hp
      have hv2 : mapL F (runes a0.data.toList) = acc := by
        rw [← hv.out, List.drop_of_length_le (by rw [← size_len]; omega), runes_nil]
        simp [mapL]
      go_wp2_with (go_at_call 26; refine (Tryz.Builder_String_any_k w.heap.size w.heap.size acc _ hI.out (by omega)).mono ?_)
      rintro e w1 ⟨rfl, _, b1, _⟩
      go_wp2
      go_ret
      exact ⟨ret_str (by rw [hv2]), hbw.trans b1⟩


def mapped_Escape.f (a0 : ByteArray) : Option ByteArray := if a0.size ≤ 5864062014805 then some ⟨(mapL escU (runes a0.data.toList)).toArray⟩ else none
theorem mapped_Escape.calls (a0 : ByteArray) (r : ByteArray) (w : World) (hL : LaidW w) (h : mapped_Escape.f a0 = some r) :
    Calls Tryz.prog 21 #[.string a0, .func (.func 22) #[] #[]] w fun e w' => e = .returned (.string r) ∧ Below w.heap.size w w' := by
  unfold mapped_Escape.f at h
  split at h
  case isFalse => cases h
  case isTrue hs =>
  obtain rfl := Option.some.inj h
  exact mapped_anyB 22 escU (enters_of Tryz.func22 (by kernel_rfl) rfl) (fun c W hLW hc => esc_any c W hLW hc) escU_len a0 w hL hs
end Go.Proofs.YtegapacamclipaaGreatDoor.G
