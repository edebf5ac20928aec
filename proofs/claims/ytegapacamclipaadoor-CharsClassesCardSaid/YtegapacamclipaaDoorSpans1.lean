/- CharsClasses: chars.spans: walked by hand. -/
import Derived.Test.YtegapacamclipaaDoorParts
import Derived.IntWalk
set_option linter.unusedVariables false
set_option linter.unusedSimpArgs false
namespace Go.Proofs.YtegapacamclipaaDoor.G
open Go.RowKit Go.Proofs.YtegapacamclipaaDoorW.PrintWords Go.Proofs.YtegapacamclipaaDoor.Cls Go.Proofs.YtegapacamclipaaDoor.C Go.Lib Go.Shelf
theorem ww (a n : Nat) (h1 : a < 2000000) (h2 : n < 2000000) (h : 0 < n) : wrap64 (wrap64 ((a : Int) + (n : Int)) - 1) = ((a + n - 1 : Nat) : Int) := by
  have e : wrap64 ((a : Int) + (n : Int)) = (a : Int) + (n : Int) := by unfold wrap64; omega
  rw [e]
  unfold wrap64
  omega
theorem cell_two_new (w : World) (a b : Value) (t : TypeId) : ∀ j u, [a, b][j]? = some u → (w.alloc (.cells #[a, b] t)).cell? ((⟨w.heap.size, 0, none⟩ : Addr).add j) = some u := by
  intro j u hj
  match j, hj with
  | 0, hj => simp at hj; subst hj; simp [Addr.add]
  | 1, hj => simp at hj; subst hj; simp [Addr.add]
  | (j + 2), hj => simp at hj
theorem cell_two_new2 (w : World) (o : Obj) (a b : Value) (t : TypeId) : ∀ j u, [a, b][j]? = some u → ((w.alloc o).alloc (.cells #[a, b] t)).cell? ((⟨w.heap.size + 1, 0, none⟩ : Addr).add j) = some u := by
  have h := cell_two_new (w.alloc o) a b t
  rw [show (w.alloc o).heap.size = w.heap.size + 1 by simp] at h
  exact h
theorem cell_two_q (w : World) (o : Obj) (nq : Nat) (a b : Value) (t : TypeId) : ∀ j u, [a, b][j]? = some u → (((w.alloc o).drewN nq).alloc (.cells #[a, b] t)).cell? ((⟨w.heap.size + 1, 0, none⟩ : Addr).add j) = some u := by
  have h := cell_two_new ((w.alloc o).drewN nq) a b t
  rw [show ((w.alloc o).drewN nq).heap.size = w.heap.size + 1 by simp] at h
  exact h
theorem ww2 (a : Nat) (h1 : a < 2000000) : IntKind.i64.wrap ((a : Int) + 1) = (a : Int) + 1 := by
  exact IntWalk.i64_in _ (by omega)
theorem own_dr {w : World} {base : Nat} {e : TypeId} {size : Nat} {v : Value} {n k : Nat} {xs : List Value} (h : w.ownsRow base e size v k xs) : (w.drewN n).ownsRow base e size v k xs := h
theorem flat_set : ∀ (o : List (Nat × Nat)) (y1 y2 hi : Nat), (flatP (o ++ [(y1, y2)])).set (o.length * 2 + 1) (.int .i64 (hi : Int)) = flatP (o ++ [(y1, hi)])
  | [], _, _, _ => rfl
  | x :: o, y1, y2, hi => by
    rw [List.cons_append, List.cons_append, flat_cons, flat_cons, List.length_cons, show (o.length + 1) * 2 + 1 = o.length * 2 + 1 + 1 + 1 by omega, List.set_cons_succ, List.set_cons_succ, flat_set o]
theorem small_of {p : Fin 8} {j : Nat} (hj : j < (rowN p).length) : (rowN p)[j].1 < 2000000 ∧ (rowN p)[j].2 < 2000000 := rowN_big p _ (List.getElem_mem hj)
theorem cell_flat {w : World} {g n : Nat} {l : List (Nat × Nat)} (h : ∀ i, i < n * 2 → w.cell? ⟨g, i, none⟩ = (flatP l)[i]?) (hn : l.length = n) (m : Nat) (hm : m < l.length) :
    w.cell? ⟨g, m * 2, none⟩ = some (.int .i64 (l[m].1 : Int)) ∧ w.cell? ⟨g, m * 2 + 1, none⟩ = some (.int .i64 (l[m].2 : Int)) := by
  have := flat_at l m hm
  exact ⟨(h _ (by omega)).trans this.1, (h _ (by omega)).trans this.2⟩
theorem tv_get (cl : Fin 8) (m : Nat) (h : m < ((Six cl).map tv).length) : (((Six cl).map tv)[m]).1 < 2000000 ∧ (((Six cl).map tv)[m]).2 < 2000000 := by
  rw [List.getElem_map]; exact tv_big _
theorem six_len (cl : Fin 8) : ((Six cl).map tv).length = (Dix cl).length := by
  rw [List.length_map]; exact (List.isPerm_iff.1 (cls_perm cl)).length_eq
theorem join_len : ∀ (r o : List (Nat × Nat)), (joinS o r).length ≤ o.length + r.length
  | [], o => by simp [joinS]
  | x :: r, o => by
    rcases List.eq_nil_or_concat o with rfl | ⟨o', y, rfl⟩
    · rw [join_first]; have := join_len r [x]; simp at this ⊢; omega
    · rw [List.concat_eq_append]
      by_cases h : y.2 + 1 = x.1
      · rw [join_touch _ _ _ _ h]; have := join_len r (o' ++ [(y.1, x.2)]); simp at this ⊢; omega
      · rw [join_apart _ _ _ _ h]; have := join_len r (o' ++ [y] ++ [x]); simp at this ⊢; omega
theorem unsorted_len (P : List (Fin 8)) (i : Nat) (hi : i ≤ P.length) : (unsorted (P.take i)).length ≤ i * 9 := by
  induction i with
  | zero => simp [unsorted]
  | succ i ih =>
    rw [uns_snoc P i (by omega), List.length_append]
    have h1 := ih (by omega)
    have h2 := rowsL_len (rowN P[i])
    rw [rowN_len] at h2
    omega
set_option maxHeartbeats 16000000 in
set_option maxRecDepth 100000 in
theorem spans_some (k : Nat) (s : ByteArray) (cl : Fin 8) (w : World) (hp : chars_partsOf.f k s = some ((partsN cl).map nameR)) (h0 : 0 < (partsN cl).length) (h6 : (partsN cl).length ≤ 6) :
    Calls Tryd.prog 70 #[.string s] w fun e w' => ∃ v, e = .returned v ∧ w'.ownsRow w.heap.size 49 2 v (clsL cl).length (flatP (clsL cl)) ∧ Below w.heap.size w w' := by
  obtain ⟨i0, hi0, hz0, hz1, hz2⟩ := info_parts info49
  have hps := Aside0.mk (parts_any k s _ w h0 hp)
  have hun := Aside0.mk (cls_un cl)
  clear hp
  generalize partsN cl = P at *
  obtain ⟨Q, hQ⟩ : ∃ Q : Ending → World → Prop, Q = fun e w' => ∃ v, e = .returned v ∧ w'.ownsRow w.heap.size 49 2 v (clsL cl).length (flatP (clsL cl)) ∧ Below w.heap.size w w' := ⟨_, rfl⟩
  rw [← hQ]
  have hQA := Aside0.mk hQ
  clear hQ
  go_enter Tryd.func70, Tryd.ntmps70
  go_wp2_with (go_at_call 93; refine hps.out.mono ?_; rintro e w1 ⟨g, cap, rfl, hg0, hcell0, hB0⟩)
  have hcell := Aside0.mk hcell0
  have hB1 := Aside0.mk hB0
  clear hcell0 hB0
  go_loopw [3, 15] (fun lv iv wr => ∃ (i : Nat), iv = .int .i64 i ∧ i ≤ P.length ∧ Aside0 (wr.ownsRow w1.heap.size 49 2 lv (unsorted (P.take i)).length (flatP (unsorted (P.take i)))) ∧ Aside0 (Below w1.heap.size w1 wr)) (fun _ iv _ => P.length - (Go.RowKit.intOf iv).toNat)
  case atStart => exact ⟨0, rfl, by omega, ⟨World.ownsRow_nil _ _ _ _⟩, ⟨Below.refl _ _⟩⟩
  case round =>
    obtain ⟨i, rfl, hi, hO, hB⟩ := hrel
    obtain ⟨wo, rfl⟩ : ∃ wo : World, wo = wr := ⟨_, rfl⟩
    by_cases hlt : i < P.length
    · have hci : wo.cell? ⟨g, i, none⟩ = some (.string (nameR P[i])) := (hB.out.cell (p := ⟨g, i, none⟩) hg0).trans (hcell.out i hlt)
      have huns := Aside0.mk (uns_snoc P i hlt)
      have hul := unsorted_len P i hi
      generalize P[i] = p at *
      have hlk := fun wq : World => fun b : Nat => fun hb : wq.heap[b]? = some (.map rowsE 8) => look_run wq b 8 hb p
      have hl1 := hlk (wo.alloc (.map rowsE 8)) wo.heap.size (heap_alloc_new _ _)
      clear hlk
      have hrw := Aside0.mk (rows_any wo)
      go_wp2_with (go_at_call 94; refine hrw.out.mono ?_; rintro e w2 ⟨rfl, rfl⟩)
      clear hl1 hci
      have hrN := Aside0.mk (rowN_len p)
      have hO1 := Aside0.mk (hO.out.alloc (.map rowsE 8))
      have hB2 := Aside0.mk (hB.out.alloc hB.out.size (.map rowsE 8))
      clear hO hB
      generalize unsorted (P.take i) = acc0 at *
      go_loopw [3, 22] (fun lv jv wr => ∃ (j : Nat) (acc : List (Nat × Nat)), jv = .int .i64 j ∧ j ≤ 9 ∧ acc.length ≤ i * 9 + j ∧ Aside0 (acc = acc0 ++ rowsL ((rowN p).take j)) ∧ Aside0 (wr.ownsRow w1.heap.size 49 2 lv acc.length (flatP acc)) ∧ Aside0 (Below w1.heap.size w1 wr)) (fun _ jv _ => 9 - (Go.RowKit.intOf jv).toNat)
      case atStart => exact ⟨0, acc0, rfl, by omega, by omega, ⟨by simp [rowsL]⟩, hO1, hB2⟩
      case round =>
        obtain ⟨j, acc, rfl, hj, hal, hacc, hO, hB⟩ := hrel
        clear hO1 hB2
        by_cases hj9 : j < 9
        · have hjr : j < (rowN p).length := by rw [hrN.out]; exact hj9
          have hix := fun W => idx_run p j hjr W
          have hsm := small_of hjr
          have htk := Aside0.mk (List.take_succ_eq_append_getElem hjr)
          generalize (rowN p)[j] = x at *
          obtain ⟨a, n⟩ := x
          simp only at hsm hix
          obtain ⟨hs1, hs2⟩ := hsm
          have hww := Aside0.mk (ww a n hs1 hs2)
          have hfar := Aside0.mk (show (acc.length ≤ 54 ∧ 0 < 2) from ⟨by omega, by omega⟩)
          have halA := Aside0.mk hal
          have hltA := Aside0.mk hlt
          have hiA := Aside0.mk hi
          have hjrA := Aside0.mk hjr
          have hwB := Aside0.mk hB.out.size
          clear hal hul hi hjr h0 hs1 hs2 hj
          by_cases hn : 0 < n
          · have hnp : (0 : Int) < (n : Int) := by omega
            have hnA := Aside0.mk hn
            clear hn
            go_wp2_with (at_builtin; (refine wpList_append_own _ rfl _ _ 45 rfl w1.heap.size 49 i0 (.agg #[.int .i64 0, .int .i64 0]) 2 16 Tryd.underlying45 hi0 hz0 hz1 hz2 rfl (by decide) _ _ _ rfl ((hO.out.alloc _).alloc _) ⟨wr.heap.size + 1, 0, none⟩ 1 1 [.int .i64 (a : Int), .int .i64 (wrap64 (wrap64 ((a : Int) + (n : Int)) - 1))] rfl rfl (cell_two_new2 _ _ _ _ _) (fun x hx => by simp at hx; rcases hx with rfl | rfl <;> rfl) (by have := hfar.out.1; unfold maxLen; omega) (by have := hfar.out.1; omega) (by have := hwB.out; simp; omega) ?_); intro v' w3 hown' hgrow _)
            have hB3 : Aside0 (Below w1.heap.size w1 w3) := ⟨((hB.out.alloc hwB.out _).alloc (by have := hwB.out; simp; omega) _).grown hgrow (by have := hwB.out; simp; omega) (fun k hk => (hO.out.lt k hk).1)⟩
            have hO3 : Aside0 (w3.ownsRow w1.heap.size 49 2 v' (acc ++ [(a, a + n - 1)]).length (flatP (acc ++ [(a, a + n - 1)]))) := ⟨by rw [List.length_append, flat_app]; rw [hww.out hnA.out] at hown'; exact hown'⟩
            go_roundw
            case rel => exact ⟨j + 1, acc ++ [(a, a + n - 1)], by go_num, by omega, by rw [List.length_append, List.length_singleton]; have := halA.out; omega, ⟨by rw [htk.out, rowsL_app, rowsL_yes _ hnA.out, hacc.out, List.append_assoc]⟩, hO3, hB3⟩
            case measure => simp [Go.RowKit.intOf]; omega
          · have hnp : ¬ (0 : Int) < (n : Int) := by omega
            have hnA := Aside0.mk hn
            clear hn
            go_wp2
            go_roundw
            case rel => exact ⟨j + 1, acc, by go_num, by omega, by have := halA.out; omega, ⟨by rw [htk.out, rowsL_app, rowsL_no _ hnA.out, List.append_nil]; exact hacc.out⟩, ⟨hO.out.alloc _⟩, ⟨hB.out.alloc hwB.out _⟩⟩
            case measure => simp [Go.RowKit.intOf]; omega
        · have hj9' : j = 9 := by omega
          have hacc2 : Aside0 (acc = acc0 ++ rowsL (rowN p)) := ⟨by have := hacc.out; rw [hj9', List.take_of_length_le (by rw [hrN.out]; exact Nat.le_refl _)] at this; exact this⟩
          have hltA := Aside0.mk hlt
          clear hal hul hi h0 hacc
          subst hj9'
          go_wp2
          go_roundw
          case rel => exact ⟨i + 1, by go_num, hltA.out, ⟨by rw [huns.out, ← hacc2.out]; exact hO.out⟩, hB⟩
          case measure => simp [Go.RowKit.intOf]; have := hltA.out; omega
    · have hie : i = P.length := by omega
      subst hie
      have hD : unsorted (P.take P.length) = (Dix cl).map tv := by rw [List.take_length]; exact hun.out
      have hO2 := hO.out
      rw [hD, List.length_map] at hO2
      obtain ⟨g2, cap2, rfl, hg2, hlt2, _, _, _, _⟩ := own_form hO2 (cls_len cl).1
      have hsrt := Aside0.mk (sort_any w1.heap.size g2 cap2 cl wo hO2)
      clear hO hO2 hlt h6 h0 hg2
      go_wp2_with (go_at_call 95; refine hsrt.out.mono ?_; rintro e w3 ⟨rfl, hO30, hB30⟩)
      have hB3 := Aside0.mk (hB.out.trans hB30)
      obtain ⟨_, _, hv2, _, hg3, _, _, hcl0, _⟩ := own_form hO30 (cls_len cl).1
      cases hv2
      have hcl := Aside0.mk hcl0
      have hLl := six_len cl
      have hLs := Aside0.mk (tv_get cl)
      have hLj := Aside0.mk (cls_join cl)
      have hN := (cls_len cl).2.1
      clear hcl0 hO30 hB30 hB hsrt hun hps hlt2
      generalize ((Six cl).map tv) = L at *
      generalize (Dix cl).length = N at *
      go_loopw [8, 46] (fun ov mv wr => ∃ (m : Nat) (out : List (Nat × Nat)), mv = .int .i64 m ∧ m ≤ N ∧ out.length ≤ m ∧ Aside0 (joinS out (L.drop m) = clsL cl) ∧ Aside0 (out = [] → ov = .slice none 0 0) ∧ Aside0 (∀ y ∈ out, y.2 < 2000000) ∧ Aside0 (wr.ownsRow w3.heap.size 49 2 ov out.length (flatP out)) ∧ Aside0 (Below w3.heap.size w3 wr)) (fun _ mv _ => N - (Go.RowKit.intOf mv).toNat)
      case atStart => exact ⟨0, [], rfl, by omega, by simp, hLj, ⟨fun _ => rfl⟩, ⟨by simp⟩, ⟨World.ownsRow_nil _ _ _ _⟩, ⟨Below.refl _ _⟩⟩
      case round =>
        obtain ⟨m, out, rfl, hm, hol, hj, hnil, hys, hO, hB⟩ := hrel
        obtain ⟨wq, rfl⟩ : ∃ wq : World, wq = wr := ⟨_, rfl⟩
        by_cases hmn : m < N
        · have hmL : m < L.length := by omega
          have hcm := cell_flat hcl.out hLl m hmL
          have hc0 : wq.cell? ⟨g2, m * 2, none⟩ = some (.int .i64 (L[m].1 : Int)) := (hB.out.cell (p := ⟨g2, m * 2, none⟩) hg3).trans hcm.1
          have hc1 : wq.cell? ⟨g2, m * 2 + 1, none⟩ = some (.int .i64 (L[m].2 : Int)) := (hB.out.cell (p := ⟨g2, m * 2 + 1, none⟩) hg3).trans hcm.2
          have hsm := Aside0.mk (hLs.out m hmL)
          have hdr := Aside0.mk (List.drop_eq_getElem_cons hmL)
          have hfar := Aside0.mk (show out.length ≤ 31 by omega)
          clear hcm
          generalize L[m] = x at *
          obtain ⟨lo, hi⟩ := x
          simp only at hc0 hc1
          have hwB := Aside0.mk hB.out.size
          rcases List.eq_nil_or_concat out with rfl | ⟨o, y, rfl⟩
          · have hov := hnil.out rfl
            subst hov
            have hmN := Aside0.mk hmn
            clear hnil hm hol hmL hLl
            go_wp2_with fail
            go_quiet (fail)
            go_wp2_with (at_builtin; (refine wpList_append_own _ rfl _ _ 45 rfl w3.heap.size 49 i0 (.agg #[.int .i64 0, .int .i64 0]) 2 16 Tryd.underlying45 hi0 hz0 hz1 hz2 rfl (by decide) _ _ _ rfl (World.ownsRow_nil _ _ _ _) ⟨wq.heap.size + 1, 0, none⟩ 1 1 [.int .i64 (lo : Int), .int .i64 (hi : Int)] rfl rfl (cell_two_q _ _ _ _ _ _) (fun x hx => by simp at hx; rcases hx with rfl | rfl <;> rfl) (by have := hfar.out; unfold maxLen; (try simp at this ⊢); first | done | omega) (by have := hfar.out; (try simp at this ⊢); first | done | omega) (by have := hwB.out; simp; omega) ?_); intro v' w4 hown' hgrow _)
            have hB4 : Aside0 (Below w3.heap.size w3 w4) := ⟨(((pw_below_drewN (hB.out.alloc hwB.out _) nq)).alloc (by have := hwB.out; simp; omega) _).grown hgrow (by have := hwB.out; simp; omega) (fun k hk => (hO.out.lt k hk).1)⟩
            have hO4 : Aside0 (w4.ownsRow w3.heap.size 49 2 v' ([(lo, hi)] : List (Nat × Nat)).length (flatP [(lo, hi)])) := ⟨hown'⟩
            go_roundw
            case rel => exact ⟨m + 1, [(lo, hi)], by go_num, hmN.out, by simp, ⟨by rw [← join_first, ← hdr.out]; exact hj.out⟩, ⟨by simp⟩, ⟨by simp; exact hsm.out.2⟩, hO4, hB4⟩
            case measure => simp [Go.RowKit.intOf]; have := hmN.out; omega
          · obtain ⟨q, hq⟩ : ∃ q, q = o.length := ⟨_, rfl⟩
            have hlen : (o.concat y).length = q + 1 := by simp [hq]
            have hO2 := Aside0.mk (show wq.ownsRow w3.heap.size 49 2 u8 (q + 1) (flatP (o ++ [y])) by have := hO.out; rw [hlen, List.concat_eq_append] at this; exact this)
            obtain ⟨g3, cap3, rfl, hg3b, hg3l, _, _, hcell3, hfr3⟩ := own_form hO2.out (by omega)
            have hc3 : wq.cell? ⟨g3, q * 2 + 1, none⟩ = some (.int .i64 (y.2 : Int)) := by
              have h1 := hcell3 (q * 2 + 1) (by omega)
              have h2 := (flat_at (o ++ [y]) q (by simp [hq])).2
              rw [h1, h2]
              simp [hq]
            have hf3 := hfr3 (q * 2 + 1)
            have hy2 := Aside0.mk (hys.out y (by simp))
            have hfar2 := Aside0.mk (show q + 1 ≤ 31 by have := hfar.out; rw [hlen] at this; exact this)
            have hol2 := Aside0.mk (show q + 1 ≤ m by rw [hlen] at hol; exact hol)
            have hj2 := Aside0.mk (show joinS (o ++ [y]) (L.drop m) = clsL cl by have := hj.out; rw [List.concat_eq_append] at this; exact this)
            have hys2 := Aside0.mk (show ∀ z ∈ o ++ [y], z.2 < 2000000 by have := hys.out; rw [List.concat_eq_append] at this; exact this)
            have hqA := Aside0.mk hq
            have hmN := Aside0.mk hmn
            have hg3A := Aside0.mk (And.intro hg3b hg3l)
            have e1 : IntKind.i64.wrap (q : Int) = (q : Int) := IntWalk.i64_in _ (by have := hfar2.out; omega)
            have e1b : IntKind.i64.wrap ((q : Int) + 1 - 1) = (q : Int) := IntWalk.i64_in _ (by have := hfar2.out; omega) |>.trans (by omega)
            have e2 := ww2 y.2 hy2.out
            have hgt : decide ((0 : Int) < ((q + 1 : Nat) : Int)) = true := by simp
            clear hnil hm hol hmL hLl hO hj hys hlen hq hcell3 hfr3 hg3b
            obtain ⟨y1, y2⟩ := y
            simp only at hc3 e2
            by_cases he : y2 + 1 = lo
            · have hb : (((y2 : Int) + 1) == (lo : Int)) = true := by rw [beq_iff_eq]; omega
              have heA := Aside0.mk he
              clear he
              go_wp2_with fail
              go_quiet (fail)
              go_wp2
              have hO4 : Aside0 ((((wq.alloc (Obj.cells #[Value.int IntKind.i64 ↑lo, Value.int IntKind.i64 ↑hi] 49)).drewN nq).setCell { block := g3, off := q * 2 + 1 } (Value.int IntKind.i64 ↑hi)).ownsRow w3.heap.size 49 2 (.slice (some ⟨g3, 0, none⟩) (q + 1) cap3) (o ++ [(y1, hi)]).length (flatP (o ++ [(y1, hi)]))) := ⟨by
                have h1 := own_set (own_dr (n := nq) (hO2.out.alloc (Obj.cells #[Value.int IntKind.i64 ↑lo, Value.int IntKind.i64 ↑hi] 49))) (q * 2 + 1) (Value.int IntKind.i64 ↑hi)
                rw [hqA.out] at h1 ⊢
                rw [flat_set] at h1
                rw [List.length_append, List.length_singleton]
                exact h1⟩
              have hB4 : Aside0 (Below w3.heap.size w3 (((wq.alloc (Obj.cells #[Value.int IntKind.i64 ↑lo, Value.int IntKind.i64 ↑hi] 49)).drewN nq).setCell { block := g3, off := q * 2 + 1 } (Value.int IntKind.i64 ↑hi))) := ⟨below_set (pw_below_drewN (hB.out.alloc hwB.out _) nq) hg3A.out.1 _ _⟩
              go_roundw
              case rel => exact ⟨m + 1, o ++ [(y1, hi)], by go_num, hmN.out, by rw [List.length_append, List.length_singleton, ← hqA.out]; have := hol2.out; omega, ⟨(join_touch o (y1, y2) (lo, hi) _ heA.out).symm.trans (by rw [← hdr.out]; exact hj2.out)⟩, ⟨fun h => by simp at h⟩, ⟨fun z hz => by
                rcases List.mem_append.1 hz with h | h
                · exact hys2.out z (List.mem_append_left _ h)
                · rw [List.mem_singleton.1 h]; exact hsm.out.2⟩, hO4, hB4⟩
              case measure => simp [Go.RowKit.intOf]; have := hmN.out; omega
            · have hb : (((y2 : Int) + 1) == (lo : Int)) = false := by rw [beq_eq_false_iff_ne]; omega
              have heA := Aside0.mk he
              clear he
              go_wp2_with fail
              go_quiet (fail)
              go_wp2_with (at_builtin; refine wpList_append_own _ rfl _ _ 45 rfl w3.heap.size 49 i0 (.agg #[.int .i64 0, .int .i64 0]) 2 16 Tryd.underlying45 hi0 hz0 hz1 hz2 rfl (by decide) _ _ _ rfl ((own_dr (hO2.out.alloc _)).alloc _) ⟨wq.heap.size + 1, 0, none⟩ 1 1 [.int .i64 (lo : Int), .int .i64 (hi : Int)] rfl rfl (cell_two_q _ _ _ _ _ _) (fun x hx => by simp at hx; rcases hx with rfl | rfl <;> rfl) (by have := hfar2.out; unfold maxLen; omega) (by have := hfar2.out; omega) (by have := hwB.out; simp; omega) ?_; intro v' w4 hown' hgrow _)
              have hB4 : Aside0 (Below w3.heap.size w3 w4) := ⟨(((pw_below_drewN (hB.out.alloc hwB.out _) nq)).alloc (by have := hwB.out; simp; omega) _).grown hgrow (by have := hwB.out; simp; omega) (fun k hk => (hO2.out.lt k hk).1)⟩
              have hO4 : Aside0 (w4.ownsRow w3.heap.size 49 2 v' (o ++ [(y1, y2)] ++ [(lo, hi)]).length (flatP (o ++ [(y1, y2)] ++ [(lo, hi)]))) := ⟨by
                rw [List.length_append, List.length_append, flat_app _ [(lo, hi)], ← hqA.out]
                exact hown'⟩
              go_roundw
              case rel => exact ⟨m + 1, o ++ [(y1, y2)] ++ [(lo, hi)], by go_num, hmN.out, by rw [List.length_append, List.length_append, List.length_singleton, List.length_singleton, ← hqA.out]; have := hol2.out; omega, ⟨(join_apart o (y1, y2) (lo, hi) _ heA.out).symm.trans (by rw [← hdr.out]; exact hj2.out)⟩, ⟨fun h => by simp at h⟩, ⟨fun z hz => by
                rcases List.mem_append.1 hz with h | h
                · exact hys2.out z h
                · rw [List.mem_singleton.1 h]; exact hsm.out.2⟩, hO4, hB4⟩
              case measure => simp [Go.RowKit.intOf]; have := hmN.out; omega
        · have hmN : m = N := by omega
          have hLe : L.drop m = [] := List.drop_of_length_le (by omega)
          have hres := Aside0.mk hj.out
          have hR : Aside0 (out = clsL cl) := ⟨by have := hj.out; rw [hLe] at this; exact this⟩
          clear hLe hres hm hol hmN hLl
          go_wp2
          rw [hQA.out]
          refine ⟨_, rfl, ?_, ?_⟩
          · rw [← hR.out]
            exact own_weaken hO.out (Nat.le_trans hB1.out.size hB3.out.size)
          · exact (hB1.out.trans (hB3.out.mono hB1.out.size)).trans (hB.out.mono (Nat.le_trans hB1.out.size hB3.out.size))
set_option maxHeartbeats 4000000 in
set_option maxRecDepth 100000 in
theorem spans_none (k : Nat) (s : ByteArray) (w : World) (hp : chars_partsOf.f k s = some []) :
    Calls Tryd.prog 70 #[.string s] w fun e w' => e = .returned (.slice none 0 0) ∧ Below w.heap.size w w' := by
  have hps := Aside0.mk ((chars_partsOf.calls k s [] w hp).mono (R' := fun e w' => ∃ A c, e = .returned (.slice A 0 c) ∧ Below w.heap.size w w') (fun e w' ⟨v, h1, h2, h3⟩ => by
    obtain ⟨A, c, h4, _⟩ := Kd.R_reads h2
    exact ⟨A, c, by rw [h1, h4]; rfl, h3⟩))
  clear hp
  have hsrt := Aside0.mk (fun W => AnyF.slices_SortFunc_none Tryd.sortSp none 0 (.func (.func 96) #[] #[]) W)
  go_enter Tryd.func70, Tryd.ntmps70
  go_wp2_with (go_at_call 93; refine hps.out.mono ?_; rintro e w1 ⟨A, c, rfl, hB0⟩)
  have hB1 := Aside0.mk hB0
  clear hB0
  refine wp_loop_rounds 1 ?_
  rw [rounds_succ]
  go_wp2_with (go_at_call 95; refine (hsrt.out _).mono ?_; rintro e w2 ⟨rfl, rfl⟩)
  refine wp_loop_rounds 1 ?_
  rw [rounds_succ]
  go_wp2
  go_ret
  exact ⟨rfl, hB1.out⟩
end Go.Proofs.YtegapacamclipaaDoor.G
