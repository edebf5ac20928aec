/- Digits at fixed places: tap.fields: walked by hand. -/
import Derived.Test.YtallfkecjibpmaaGreatDoorAtB
import Derived.Deep.AppendLies
import Derived.OwnWalk
import Derived.WalkSpells
set_option linter.unusedVariables false
set_option linter.unusedSimpArgs false
namespace Go.Proofs.YtallfkecjibpmaaGreatDoor.G
open Go.RowKit Go.Proofs.YtallfkecjibpmaaGreatDoorW.PrintWords Go.Proofs.YtallfkecjibpmaaGreatDoor.Nm Go.Lib
def mkD (l : List UInt8) : ByteArray := ⟨l.toArray⟩
theorem mkD_size (l : List UInt8) : (mkD l).size = l.length := by simp [mkD, ByteArray.size]
theorem mkD_list (l : List UInt8) : (mkD l).data.toList = l := by simp [mkD]
/-- The numbers of a text by a pattern in which 48 stands for any digit; what stands of the present number is ds. -/
def fieldsF : List UInt8 → List UInt8 → List Int → List UInt8 → Option (List Int)
  | [], [], out, ds => some (out ++ [(val ds : Int)])
  | c :: s, p :: q, out, ds => if p = 48 then (if isDb c = true then fieldsF s q out (ds ++ [c]) else none) else (if c = p then fieldsF s q (out ++ [(val ds : Int)]) [] else none)
  | _, _, _, _ => none
/-- A pattern whose numbers have at least one digit, and at most 18. -/
def goodP : List UInt8 → Nat → Bool
  | [], n => decide (0 < n ∧ n ≤ 18)
  | p :: q, n => if p = 48 then goodP q (n + 1) else decide (0 < n ∧ n ≤ 18) && goodP q 0
theorem atoi_l (ds : List UInt8) (hne : 0 < ds.length) (hl : ds.length ≤ 18) (hd : ∀ c ∈ ds, isD c) (w : World) :
    Calls Tryz.prog 58 #[.string (mkD ds)] w fun e w' => e = .returned (.tuple #[.int .i64 (val ds : Int), .nilIface]) ∧ Below w.heap.size w w' := by
  have ha := atoi_dig ds (fun h => by rw [h] at hne; exact absurd hne (by simp)) hd hl
  rw [atoiAll_short _ hl] at ha
  have hat : Lib.atoi (mkD ds).data.toList = some ((val ds : Nat) : Int) := by
    rw [mkD_list]
    cases h : Lib.atoi ds with
    | none => rw [h] at ha; cases ha
    | some v =>
      rw [h] at ha
      have : v = (val ds : Int) := by injection ha
      rw [this]
  exact (Tryz.strconv_Atoi (mkD ds) _ (by rw [mkD_size]; exact hl) hat w).mono fun e w' ⟨h1, t, h2⟩ => ⟨h1, h2 ▸ bytesWorld_below _ _ _⟩
theorem infoI : (Tryz.prog.info? 3).map (fun i => (i.zero, i.size, i.bytes)) = some (some (.int .i64 0), 1, 8) := by kernel_rfl
theorem ext_bAt (s : ByteArray) (i : Nat) (h : i < s.size) : s.extract i (i + 1) = mkD [bAt s i] := by
  apply ByteArray.ext
  apply Array.toList_inj.1
  rw [Lib.extract_data, mkD_list, drop_bAt s i h, show i + 1 - i = 1 by omega]
  rfl
theorem mkD_cat (a b : List UInt8) : mkD a ++ mkD b = mkD (a ++ b) := by
  apply ByteArray.ext
  simp [mkD]
set_option maxHeartbeats 8000000 in
set_option maxRecDepth 100000 in
theorem fields_any (s p : ByteArray) (w : World) (hz : s.size = p.size) (hs : s.size ≤ 1000) (hg : goodP p.data.toList 0 = true) (r : Option (List Int)) (hr : fieldsF s.data.toList p.data.toList [] [] = r) :
    Calls Tryz.prog 34 #[.string s, .string p] w fun e w' => ∃ v0_ : Value, e = .returned (.tuple #[v0_, .bool r.isSome]) ∧ Kd.R (Kd.int .i64) 3 w' w.heap.size (fun _ => True) v0_ (r.getD []) ∧ Below w.heap.size w w' := by
  obtain ⟨i0, hi0, hz0, hz1, hz2⟩ := info_parts infoI
  have hrA := Aside0.mk hr
  have hgA := Aside0.mk hg
  clear hr hg
  have d0 : (((s.size : Nat) : Int) != (p.size : Int)) = false := by rw [bne_eq_false_iff_eq]; omega
  have hzA := Aside0.mk hz
  clear hz
  obtain ⟨Q, hQ⟩ : ∃ Q : Ending → World → Prop, Q = fun e w' => ∃ v0_ : Value, e = .returned (.tuple #[v0_, .bool r.isSome]) ∧ Kd.R (Kd.int .i64) 3 w' w.heap.size (fun _ => True) v0_ (r.getD []) ∧ Below w.heap.size w w' := ⟨_, rfl⟩
  rw [← hQ]
  have hQN : Aside0 (r = none → ∀ w', Below w.heap.size w w' → Q (.returned (.tuple #[.slice none 0 0, .bool false])) w') := ⟨fun h w' hb => by
    subst h
    rw [hQ]
    exact ⟨_, rfl, Kd.R_of_own (xs := ([] : List Int)) (World.ownsRow_nil _ _ _ _) (fun _ _ => trivial), hb⟩⟩
  have hQS : Aside0 (∀ l, r = some l → ∀ v w', w'.ownsRow w.heap.size 3 1 v l.length (l.map (Value.int .i64)) → Below w.heap.size w w' → Q (.returned (.tuple #[v, .bool true])) w') := ⟨fun l h v w' ho hb => by
    subst h
    rw [hQ]
    exact ⟨_, rfl, Kd.R_of_own ho (fun _ _ => trivial), hb⟩⟩
  clear hQ
  go_enter Tryz.func34, Tryz.ntmps34
  go_wp2_with fail
  go_loopw [6, 7, 21] (fun ov tv iv wr => ∃ (i : Nat) (out : List Int) (ds : List UInt8), tv = .string (mkD ds) ∧ iv = .int .i64 i ∧ i ≤ s.size ∧ out.length ≤ i ∧ ds.length ≤ i ∧ Aside0 (goodP (p.data.toList.drop i) ds.length = true) ∧ Aside0 (fieldsF (s.data.toList.drop i) (p.data.toList.drop i) out ds = r) ∧ Aside0 (∀ c ∈ ds, isD c) ∧ Aside0 (wr.ownsRow w.heap.size 3 1 ov out.length (out.map (Value.int .i64))) ∧ Aside0 (Below w.heap.size w wr)) (fun _ _ iv _ => s.size - (Go.RowKit.intOf iv).toNat)
  case atStart => exact ⟨0, [], [], rfl, rfl, by omega, by simp, by simp, ⟨by simpa using hgA.out⟩, ⟨by simpa using hrA.out⟩, ⟨by simp⟩, ⟨World.ownsRow_nil _ _ _ _⟩, ⟨Below.refl _ _⟩⟩
  case round =>
    obtain ⟨i, out, ds, rfl, rfl, hi, hol, hdl, hgd, hfr, hds, hO, hB⟩ := hrel
    obtain ⟨wo, rfl⟩ : ∃ wo : World, wo = wr := ⟨_, rfl⟩
    by_cases hlt : i < s.size
    · have hltp : i < p.size := by rw [← hzA.out]; exact hlt
      have hsd := Aside0.mk (drop_bAt s i hlt)
      have hpd := Aside0.mk (drop_bAt p i hltp)
      have hcs := at_bAt s i hlt
      have hcp := at_bAt p i hltp
      have hex := Aside0.mk (ext_bAt s i hlt)
      have hc255 : ((bAt s i).toNat : Int) < 256 := by have := (bAt s i).toNat_lt; omega
      have hgd2 := hgd.out
      rw [hpd.out] at hgd2
      have hfr2 := hfr.out
      rw [hsd.out, hpd.out, fieldsF] at hfr2
      rw [goodP] at hgd2
      clear hgd hfr
      have hiff : isDb (bAt s i) = true ↔ (48 ≤ (bAt s i).toNat ∧ (bAt s i).toNat ≤ 57) := by unfold isDb isD; exact decide_eq_true_iff
      generalize bAt s i = c at *
      generalize bAt p i = q at *
      have hc3 : ((c.toNat : Int) < 48) ∨ (48 ≤ (c.toNat : Int) ∧ (c.toNat : Int) ≤ 57) ∨ (57 < (c.toNat : Int)) := by omega
      by_cases hq : q = 48
      · subst hq
        rw [if_pos rfl] at hgd2 hfr2
        have hgA2 := Aside0.mk hgd2
        have d1 : (((48 : UInt8).toNat : Int) == 48) = true := by decide
        clear hgd2
        rcases hc3 with h3 | ⟨h3, h4⟩ | h3
        · have hnd : ¬ isDb c = true := fun h => by have := hiff.1 h; omega
          rw [if_neg hnd] at hfr2
          have hn := Aside0.mk hfr2.symm
          clear hfr2 hiff hnd
          go_wp2
          exact hQN.out hn.out _ hB.out
        · have hyd : isDb c = true := hiff.2 (by omega)
          rw [if_pos hyd] at hfr2
          have hfA := Aside0.mk hfr2
          have hdc := Aside0.mk (show isD c by unfold isD; omega)
          clear hfr2 hiff hyd
          have hexr := hex.out
          have hb0 : (i : Int) ≤ (i : Int) + 1 := by omega
          have hb1 : (i : Int) + 1 ≤ (s.size : Int) := by omega
          have hz1 : (mkD ds).size = ds.length := mkD_size ds
          have hz2 : (mkD [c]).size = 1 := rfl
          have hbig : (9223372036854775807 < ds.length + 1) = False := eq_false (by omega)
          go_wp2
          go_roundw
          case rel => exact ⟨i + 1, out, ds ++ [c], by rw [mkD_cat], by go_num, by omega, by omega, by rw [List.length_append, List.length_singleton]; omega, ⟨by rw [List.length_append]; exact hgA2.out⟩, hfA, ⟨fun x hx => by rcases List.mem_append.1 hx with h | h; exact hds.out x h; rw [List.mem_singleton] at h; rw [h]; exact hdc.out⟩, hO, hB⟩
          case measure => simp [Go.RowKit.intOf]; omega
        · have hdd : decide ((c.toNat : Int) ≤ 57) = false := decide_eq_false (by omega)
          have hnd : ¬ isDb c = true := fun h => by have := hiff.1 h; omega
          rw [if_neg hnd] at hfr2
          have hn := Aside0.mk hfr2.symm
          clear hfr2 hiff hnd
          go_wp2
          exact hQN.out hn.out _ hB.out
      · rw [if_neg hq] at hgd2 hfr2
        rw [Bool.and_eq_true, decide_eq_true_eq] at hgd2
        obtain ⟨⟨hd0, hd18⟩, hg0⟩ := hgd2
        have hg0A := Aside0.mk hg0
        clear hg0
        have d1 : (((q.toNat : Nat) : Int) == 48) = false := by
          rw [beq_eq_false_iff_ne]
          intro h
          exact hq (UInt8.toNat_inj.1 (by have h2 : (48 : UInt8).toNat = 48 := rfl; omega))
        have hat := Aside0.mk (fun W => atoi_l ds hd0 hd18 hds.out W)
        by_cases heq : c = q
        · rw [if_pos heq] at hfr2
          have hfA := Aside0.mk hfr2
          subst heq
          clear hfr2 hiff
          rcases hc3 with h3 | ⟨h3, h4⟩ | h3
          all_goals
            go_wp2_with fail
            go_quiet (fail)
            have hwB := Aside0.mk (show w.heap.size ≤ (wo.drewN nq).heap.size from hB.out.size)
            go_wp2_with (first | (go_at_call 58; refine (hat.out _).mono ?_; rintro e w2 ⟨rfl, hb2⟩) | (at_builtin; refine wpList_append_own _ rfl _ _ 27 rfl w.heap.size 3 i0 (.int .i64 0) 1 8 Tryz.underlying27 hi0 hz0 hz1 hz2 rfl (by decide) _ _ _ rfl ((own_after (W1 := wo.drewN nq) hO.out rfl hb2).alloc _) ⟨w2.heap.size, 0, none⟩ 1 1 [.int .i64 (val ds : Int)] rfl rfl (World.news_of_block (cs := #[.int .i64 (val ds : Int)]) (t := 3) (fr := (0, 0)) (heap_alloc_new w2 _)) (by simp [Value.oneCell']) (by unfold maxLen; omega) (by omega) (by have h1_ := hwB.out; have h2_ := hb2.size; simp; exact Nat.le_succ_of_le (Nat.le_trans h1_ h2_)) ?_; intro v' w3 hown' hgrow _))
            have hB3 : Aside0 (Below w.heap.size w w3) := ⟨(((pw_below_drewN hB.out nq).trans (hb2.mono hwB.out)).alloc (Nat.le_trans hwB.out hb2.size) _).grown hgrow (by simp; exact Nat.le_succ_of_le (Nat.le_trans hwB.out hb2.size)) (fun k hk => (hO.out.lt k hk).1)⟩
            have hO3 : Aside0 (w3.ownsRow w.heap.size 3 1 v' (out ++ [(val ds : Int)]).length ((out ++ [(val ds : Int)]).map (Value.int .i64))) := ⟨by rw [List.length_append, List.map_append]; exact hown'⟩
            go_roundw
            case rel => exact ⟨i + 1, out ++ [(val ds : Int)], [], by first | rfl | (simp [mkD]), by go_num, by omega, by rw [List.length_append, List.length_singleton]; omega, by simp, hg0A, hfA, ⟨by simp⟩, hO3, hB3⟩
            case measure => simp [Go.RowKit.intOf]; omega
        · rw [if_neg heq] at hfr2
          have hn := Aside0.mk hfr2.symm
          have d2 : (((c.toNat : Nat) : Int) != ((q.toNat : Nat) : Int)) = true := by
            rw [bne_iff_ne]
            intro h
            exact heq (UInt8.toNat_inj.1 (by omega))
          clear hfr2 hiff
          rcases hc3 with h3 | ⟨h3, h4⟩ | h3
          all_goals
            go_wp2_with fail
            go_quiet (fail)
            go_wp2
            exact hQN.out hn.out _ (pw_below_drewN hB.out nq)
    · have hie : i = s.size := by omega
      have hgd2 := hgd.out
      have hfr2 := hfr.out
      rw [List.drop_of_length_le (by rw [← size_len]; have := hzA.out; omega), List.drop_of_length_le (by rw [← size_len]; have := hzA.out; omega)] at hfr2
      rw [List.drop_of_length_le (by rw [← size_len]; have := hzA.out; omega), goodP, decide_eq_true_eq] at hgd2
      obtain ⟨hd0, hd18⟩ := hgd2
      rw [fieldsF] at hfr2
      have hrr := Aside0.mk hfr2.symm
      clear hfr2 hgd hfr
      have hat := Aside0.mk (fun W => atoi_l ds hd0 hd18 hds.out W)
      have hne : (mkD ds).toList.isEmpty = false := by
        rw [ByteArray.toList_eq, mkD_list]
        cases ds with
        | nil => exact absurd hd0 (by simp)
        | cons a b => rfl
      have hne2 : (!(mkD ds).toList.isEmpty) = true := by rw [hne]; rfl
      have hne3 : ((mkD ds).toList = []) = False := eq_false (fun h => by rw [h] at hne; exact absurd hne (by simp))
      have hwB := Aside0.mk hB.out.size
      subst hie
      go_wp2_with (first | (go_at_call 58; refine (hat.out _).mono ?_; rintro e w2 ⟨rfl, hb2⟩) | (at_builtin; refine wpList_append_own _ rfl _ _ 27 rfl w.heap.size 3 i0 (.int .i64 0) 1 8 Tryz.underlying27 hi0 hz0 hz1 hz2 rfl (by decide) _ _ _ rfl ((own_after (W1 := wo) hO.out rfl hb2).alloc _) ⟨w2.heap.size, 0, none⟩ 1 1 [.int .i64 (val ds : Int)] rfl rfl (World.news_of_block (cs := #[.int .i64 (val ds : Int)]) (t := 3) (fr := (0, 0)) (heap_alloc_new w2 _)) (by simp [Value.oneCell']) (by unfold maxLen; omega) (by omega) (by have h1_ := hwB.out; have h2_ := hb2.size; simp; exact Nat.le_succ_of_le (Nat.le_trans h1_ h2_)) ?_; intro v' w3 hown' hgrow _))
      have hB3 : Aside0 (Below w.heap.size w w3) := ⟨((hB.out.trans (hb2.mono hwB.out)).alloc (Nat.le_trans hwB.out hb2.size) _).grown hgrow (by simp; exact Nat.le_succ_of_le (Nat.le_trans hwB.out hb2.size)) (fun k hk => (hO.out.lt k hk).1)⟩
      have hO3 : Aside0 (w3.ownsRow w.heap.size 3 1 v' (out ++ [(val ds : Int)]).length ((out ++ [(val ds : Int)]).map (Value.int .i64))) := ⟨by rw [List.length_append, List.map_append]; exact hown'⟩
      exact hQS.out _ hrr.out _ _ hO3.out hB3.out
def tap_fields.f (a0 a1 : ByteArray) : Option (List Int × Bool) := if a0.size = a1.size ∧ a0.size ≤ 1000 ∧ goodP a1.data.toList 0 = true then some ((fieldsF a0.data.toList a1.data.toList [] []).getD [], (fieldsF a0.data.toList a1.data.toList [] []).isSome) else if a0.size ≠ a1.size then some ([], false) else none
set_option maxHeartbeats 1000000 in
set_option maxRecDepth 100000 in
theorem fields_ne (s p : ByteArray) (w : World) (hz : ¬ s.size = p.size) :
    Calls Tryz.prog 34 #[.string s, .string p] w fun e w' => e = .returned (.tuple #[.slice none 0 0, .bool false]) ∧ Below w.heap.size w w' := by
  have d0 : (((s.size : Nat) : Int) != (p.size : Int)) = true := by rw [bne_iff_ne]; omega
  clear hz
  go_enter Tryz.func34, Tryz.ntmps34
  go_wp2
  go_ret2
  exact ⟨rfl, Below.refl _ _⟩
theorem tap_fields.calls (a0 a1 : ByteArray) (r1 : List Int) (r2 : Bool) (w : World) (h : tap_fields.f a0 a1 = some (r1, r2)) :
    Calls Tryz.prog 34 #[.string a0, .string a1] w fun e w' => ∃ v0_ : Value, e = .returned (.tuple #[v0_, .bool r2]) ∧ Kd.R (Kd.int .i64) 3 w' w.heap.size (fun _ => True) v0_ r1 ∧ Below w.heap.size w w' := by
  unfold tap_fields.f at h
  split at h
  · rename_i hs
    simp only [Option.some.injEq, Prod.mk.injEq] at h
    obtain ⟨rfl, rfl⟩ := h
    exact fields_any a0 a1 w hs.1 hs.2.1 hs.2.2 _ rfl
  · split at h
    · rename_i hs
      simp only [Option.some.injEq, Prod.mk.injEq] at h
      obtain ⟨rfl, rfl⟩ := h
      refine (fields_ne a0 a1 w hs).mono fun e w' ⟨h1, h2⟩ => ⟨_, h1, ?_, h2⟩
      exact Kd.R_of_own (xs := ([] : List Int)) (World.ownsRow_nil _ _ _ _) (fun _ _ => trivial)
    · cases h
end Go.Proofs.YtallfkecjibpmaaGreatDoor.G

