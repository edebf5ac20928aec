/- CharsClasses: the sort of the spans: slices.SortFunc with its closure, for rows that stand in one table. -/
import Derived.Test.YtegapacamclipaaDoorSortShelf
import Derived.Test.YtegapacamclipaaDoorRowMap
import Derived.Test.YtegapacamclipaaDoorOwn
import Derived.Sort.Grow
import Derived.Shelf.SlSortCmp.NoneTotal
set_option linter.unusedVariables false
set_option linter.unusedSimpArgs false
namespace Go.Proofs.YtegapacamclipaaDoor.G
open Go.RowKit Go.Proofs.YtegapacamclipaaDoor.Cls Go.Lib Go.Shelf
open Go.Sort hiding Below
theorem holds_id {w : World} {g : Nat} {cur : Array Value} {e : TypeId} {F : Array Value} (hb : w.heap[g]? = some (.cells cur e (0, 0))) (ht : cur.toList.take F.size = F.toList) : Holds id w g 0 F := by
  intro j hj
  refine ⟨?_, by simp [World.frozen?, hb]⟩
  have h1 : (cur.toList.take F.size)[j]? = F.toList[j]? := by rw [ht]
  rw [List.getElem?_take_of_lt hj] at h1
  simp only [World.cell?, hb, Nat.zero_add]
  simp only [Option.isSome_none, Bool.false_eq_true, if_false]
  rw [← Array.getElem?_toList, h1]
  simp [hj]
theorem heap_id {w : World} {g n : Nat} {os : Array Obj} {cur : Array Value} {e : TypeId} {fr : Nat × Nat} (d : Array Value) (hb : w.heap[g]? = some (.cells cur e fr)) :
    (grow (putRow id (Sort.ahead w n) g 0 d) os).heap[g]? = some (.cells (putCells id 0 d cur) e fr) := by
  have hg : g < w.heap.size := (Array.getElem?_eq_some_iff.1 hb).1
  rw [heap_grow_old _ _ (by simpa using hg)]
  simp [putRow, mapBlock, Sort.ahead, Array.getElem?_modify, hb, onCells]
theorem grownBy_id {w : World} {g n : Nat} {os : Array Obj} (d : Array Value) : w.grownBy (grow (putRow id (Sort.ahead w n) g 0 d) os) (some g) := by
  refine ⟨rfl, rfl, rfl, by simp, fun k hk hne => ?_⟩
  rw [heap_grow_old _ _ (by simpa using hk)]
  have : g ≠ k := fun e => hne (by rw [e])
  simp [putRow, mapBlock, Sort.ahead, Array.getElem?_modify, this]
theorem take_id (cur ts : Array Value) (h : ts.size ≤ cur.size) : (putCells id 0 ts cur).toList.take ts.size = ts.toList := by
  apply List.ext_getElem?
  intro j
  by_cases hj : j < ts.size
  · rw [List.getElem?_take_of_lt hj, Array.getElem?_toList]
    simp [putCells, hj, show j < cur.size by omega]
  · rw [List.getElem?_take_eq_none (by omega), List.getElem?_eq_none (by simp; omega)]
/-- A span's two cells. -/
def encI (i : Ix) : List Value := [.int .i64 ((tv i).1 : Int), .int .i64 ((tv i).2 : Int)]
theorem flat_len (l : List (Nat × Nat)) : (flatP l).length = l.length * 2 := by
  induction l with
  | nil => rfl
  | cons a l ih => simp only [flatP, List.flatMap_cons, List.length_append, List.length_cons, List.length_nil] at ih ⊢; omega
theorem flat_cons (x : Nat × Nat) (l : List (Nat × Nat)) : flatP (x :: l) = .int .i64 (x.1 : Int) :: .int .i64 (x.2 : Int) :: flatP l := rfl
theorem flat_app (a b : List (Nat × Nat)) : flatP (a ++ b) = flatP a ++ flatP b := by simp [flatP]
theorem flat_at : ∀ (l : List (Nat × Nat)) (j : Nat) (h : j < l.length), (flatP l)[j * 2]? = some (.int .i64 (l[j].1 : Int)) ∧ (flatP l)[j * 2 + 1]? = some (.int .i64 (l[j].2 : Int))
  | x :: l, 0, _ => ⟨rfl, rfl⟩
  | x :: l, j + 1, h => by
    have ih := flat_at l j (by simpa using h)
    rw [flat_cons, show (j + 1) * 2 = j * 2 + 1 + 1 by omega, List.getElem?_cons_succ, List.getElem?_cons_succ, List.getElem?_cons_succ, List.getElem?_cons_succ]
    exact ih
theorem flatK_flat (D : List Ix) : (flatK encI 2 D.toArray).toList = flatP (D.map tv) := by
  apply List.ext_getElem?
  intro t
  by_cases ht : t < D.length * 2
  · have h2 : t / 2 < D.length := by omega
    have hm := flat_at (D.map tv) (t / 2) (by simpa using h2)
    have hg : (flatK encI 2 D.toArray).toList[t]? = some ((encI (D.toArray[t / 2]!))[t % 2]!) := by
      rw [Array.getElem?_toList]
      simp [flatK, ht]
    have hd : D.toArray[t / 2]! = D[t / 2] := by simp [h2]
    rw [hg, hd]
    rw [List.getElem_map] at hm
    generalize hx : D[t / 2] = x at *
    have key : ∀ q, (flatP (D.map tv))[t / 2 * 2 + q]? = some ((encI x)[q]!) → t % 2 = q → some ((encI x)[t % 2]!) = (flatP (D.map tv))[t]? := fun q h1 h2 => by
      have e : t = t / 2 * 2 + q := by omega
      rw [h2]
      exact h1.symm.trans (congrArg (fun n => (flatP (D.map tv))[n]?) e.symm)
    rcases Nat.mod_two_eq_zero_or_one t with h | h
    · exact key 0 hm.1 h
    · exact key 1 hm.2 h
  · rw [List.getElem?_eq_none (by simp; omega), List.getElem?_eq_none (by rw [flat_len, List.length_map]; omega)]
set_option maxHeartbeats 1000000 in
/-- The closure: a.Lo - b.Lo. -/
theorem cmp_any (x y : Ix) (W : World) : Calls Tryd.prog 96 #[.agg #[.int .i64 ((tv x).1 : Int), .int .i64 ((tv x).2 : Int)], .agg #[.int .i64 ((tv y).1 : Int), .int .i64 ((tv y).2 : Int)]] W fun e w' => e = .returned (.int .i64 (((tv x).1 : Int) - ((tv y).1 : Int))) ∧ ∃ q os', w' = grow (W.drewN q) os' := by
  have hx := (tv_big x).1
  have hy := (tv_big y).1
  generalize (tv x).1 = a at *
  generalize (tv y).1 = b at *
  generalize (tv x).2 = c at *
  generalize (tv y).2 = d at *
  go_enter Tryd.func96, Tryd.ntmps96
  go_wp2
  go_ret
  exact ⟨rfl, 0, _, by rw [alloc_eq_grow, alloc_eq_grow, grow_grow]; rfl⟩
def cfI (x y : Ix) : Int := ((tv x).1 : Int) - ((tv y).1 : Int)
theorem lt_cf (x y : Ix) : ltOf cfI x y = decide (x < y) := by
  unfold ltOf cfI
  rw [decide_eq_decide, ← tv_lt]
  omega
theorem swo_cf : SWO (ltOf cfI) where
  irrefl x := by rw [lt_cf]; simp
  trans x y z h1 h2 := by rw [lt_cf, decide_eq_true_eq] at *; exact Fin.lt_trans h1 h2
  ntrans x y z h1 h2 := by rw [lt_cf, decide_eq_false_iff_not, Fin.not_lt] at *; exact Fin.le_trans h2 h1
theorem cmp_lays (blk off size : Nat) (w : World) : CmpLays Tryd.prog 96 #[] encI 2 cfI blk off size w := fun _ _ _ _ x y => cmp_any x y _
theorem sort_any (base g cap : Nat) (cl : Fin 8) (w : World) (ho : w.ownsRow base 49 2 (.slice (some ⟨g, 0, none⟩) (Dix cl).length cap) (Dix cl).length (flatP ((Dix cl).map tv))) :
    Calls Tryd.prog 95 #[.slice (some ⟨g, 0, none⟩) (Dix cl).length cap, .func (.func 96) #[] #[]] w fun e w' => e = .returned (.tuple #[]) ∧ w'.ownsRow base 49 2 (.slice (some ⟨g, 0, none⟩) (Dix cl).length cap) (Dix cl).length (flatP ((Six cl).map tv)) ∧ Below base w w' := by
  have hD := cls_len cl
  rcases ho.2 with ⟨hv, _⟩ | ⟨g', cap', cur, hv, hbase, hb, h1, h2, h3, h4⟩
  · cases hv
  · cases hv
    have hg : g < w.heap.size := (Array.getElem?_eq_some_iff.1 hb).1
    have eg : ∀ args w, (callFunc 96 args).run Tryd.prog w = .ok (.enter 96 args) w := enters_of Tryd.func96 (by kernel_rfl) rfl
    have hH : HoldsK encI 2 w g 0 (Dix cl).toArray := by
      refine holds_id hb ?_
      rw [size_flatK, flatK_flat]
      simpa using h4
    have hcon := AnyQ.slices_SortFunc Tryd.sortSp 2 Tryd.isAgg49 Tryd.sizeOf49 encI (fun _ => rfl) (fun x v hv => by simp [encI] at hv; rcases hv with rfl | rfl <;> rfl) cfI swo_cf 96 #[] g 0 cap (Dix cl).toArray w eg (cmp_lays g 0 _ w) hH hg (by simp; omega)
    change Calls Tryd.prog 95 _ _ _ at hcon
    rw [List.size_toArray] at hcon
    refine hcon.mono ?_
    rintro e w' ⟨rfl, d', n, os, hp, hs, rfl⟩
    have hsz : d'.size = (Dix cl).length := by have := hp.1; simpa using this
    have hperm : d'.toList.Perm (Dix cl) := by
      have := hp.2.2
      rw [← hsz, Array.extract_size] at this
      have e2 : ((Dix cl).toArray.extract 0 d'.size).toList = Dix cl := by rw [hsz]; simp
      rw [e2] at this
      exact this
    have hpw : d'.toList.Pairwise (· ≤ ·) := by
      rw [List.pairwise_iff_getElem]
      intro i j hi hj hij
      have := hs i j (Nat.zero_le _) hij (by rw [← hsz]; simpa using hj)
      rw [lt_cf, decide_eq_false_iff_not, Fin.not_lt] at this
      have hi' : i < d'.size := by simpa using hi
      have hj' : j < d'.size := by simpa using hj
      simpa [hi', hj'] using this
    have hS := sorted_one cl _ hperm hpw
    have hfl : (flatK encI 2 d').toList = flatP ((Six cl).map tv) := by
      rw [← hS]
      have := flatK_flat d'.toList
      simpa using this
    refine ⟨rfl, ⟨by rw [← hfl]; simp [hsz], .inr ⟨g, cap, _, rfl, hbase, heap_id _ hb, h1, h2, by simp [putCells, h3], ?_⟩⟩, ?_⟩
    · have := take_id cur (flatK encI 2 d') (by rw [size_flatK, hsz, h3]; exact Nat.mul_le_mul_right 2 h1)
      rw [size_flatK, hsz, hfl] at this
      exact this
    · exact (Below.refl base w).grown (grownBy_id _) (Nat.le_of_lt (Nat.lt_of_le_of_lt hbase hg)) (fun k hk => by cases hk; exact hbase)
end Go.Proofs.YtegapacamclipaaDoor.G
