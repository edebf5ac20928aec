/- doc: width, words, and the wrapper: what they give, proved by walking them. -/
import Derived.Test.YthdalpminhbckaaDoorProg
import Derived.Test.YthdalpminhbckaaDoorText
import Derived.Test.YthdalpminhbckaaDoorWWords
import Derived.Test.YthdalpminhbckaaDoorWMore
import Derived.Test.YthdalpminhbckaaDoorWLast
import Derived.BigCall
import Derived.WalkKit
import Derived.Lib.OthersKept
import Derived.Deep.RegionHeld3
import Derived.Deep.DrawnRows
set_option linter.unusedVariables false
set_option linter.unusedSimpArgs false
namespace Go.Proofs.YthdalpminhbckaaDoor.G
open Go.RowKit Go.Proofs.YthdalpminhbckaaDoorW.PrintWords Go.Proofs.YthdalpminhbckaaDoorW.PrintMore Go.Proofs.YthdalpminhbckaaDoorW.PrintLast Go.Proofs.YthdalpminhbckaaDoor.Tx Go.Lib

theorem wr_drop {s : ByteArray} {pos : Nat} (h : pos < s.size) : s.data.toList.drop pos ≠ [] := by
  intro e
  have := congrArg List.length e
  rw [List.length_drop, ← size_len] at this
  simp at this
  omega
def wd (s : ByteArray) : Nat := (runes s.data.toList).length
theorem ret_int {k : IntKind} {a b : Int} (h : a = b) : Ending.returned (.int k a) = .returned (.int k b) := by rw [h]
set_option maxHeartbeats 1000000 in
set_option maxRecDepth 100000 in
theorem width_any (s : ByteArray) (w : World) (hs : s.size ≤ 140737488351232) :
    Calls Tryd.prog 131 #[.string s] w fun e w' => e = .returned (.int .i64 (wd s)) ∧ Below w.heap.size w w' := by
  go_enter Tryd.func131, Tryd.ntmps131
  go_wp2_with fail
  go_loopw [3] (fun v wr => ∃ (pos n : Nat), v = .int .i64 n ∧ pos ≤ s.size ∧ n ≤ pos ∧ wr.heap[w.heap.size]? = some (.stringIter s pos) ∧ Below w.heap.size w wr ∧ Aside0 (n + (runes (s.data.toList.drop pos)).length = wd s)) (fun _ wr => s.size - wr.iterPos w.heap.size)
  case atStart =>
    exact ⟨0, 0, rfl, by omega, by omega, by simp [World.iter_heap], (Below.refl _ w).alloc (Nat.le_refl _) _, ⟨by simp [wd]⟩⟩
  case round =>
    obtain ⟨pos, n, rfl, hpl, hal, hit, hbw, hv⟩ := hrel
    have hszr : w.heap.size < wr.heap.size := (Array.getElem?_eq_some_iff.1 hit).1
    by_cases hp : pos < s.size
    · have hnx : ∀ ty, (Instr.next (.pointer (some ⟨w.heap.size, 0, none⟩)) true ty).run Tryd.prog wr = _ := fun ty => Lib.run_next_any_at wr w.heap.size s pos ty hit hp
      rw [dec_eq] at hnx
      have hne := Aside0.mk (wr_drop hp)
      have hwd := dec_width (s.data.toList.drop pos)
      have hft := dec_fits _ hne.out
      rw [List.length_drop, ← size_len] at hft
      have hwdr := Aside0.mk (List.drop_drop (l := s.data.toList) (i := (dec (s.data.toList.drop pos)).2) (j := pos))
      have hrc := Aside0.mk (runes_cons hne.out)
      generalize hd : dec (s.data.toList.drop pos) = d at *
      obtain ⟨c, k⟩ := d
      simp only at *
      have hit2 := Lib.iterAt_heap wr w.heap.size s pos (pos + k) hit
      have hbw2 := Aside0.mk (Lib.below_iterAt hbw (k := w.heap.size) (by omega) s (pos + k))
      clear hd
      go_wp2_with fail
      go_roundw
      case rel =>
        refine ⟨pos + k, n + 1, ?_, by omega, by omega, hit2, hbw2.out, ⟨?_⟩⟩
        · congr 1
        · rw [← hv.out, hrc.out, hwdr.out, List.length_cons]
          omega
      case measure =>
        simp only [World.iterPos, hit2, hit]
        omega
    · have hnx : ∀ ty, (Instr.next (.pointer (some ⟨w.heap.size, 0, none⟩)) true ty).run Tryd.prog wr = _ := fun ty => Lib.run_next_end_at wr w.heap.size s pos ty hit hp
      go_wp2_with fail
      have hv2 : n = wd s := by
        rw [← hv.out, List.drop_of_length_le (by rw [← size_len]; omega), runes_nil]
        rfl
      go_ret
      exact ⟨ret_int (by rw [hv2]), hbw⟩

/-- The wrapper, as it lies in memory. -/
structure Wr where
  lines : List ByteArray
  now : ByteArray
  beg : ByteArray
  others : ByteArray
  most : Int
  empty : Bool
def Wr.cells (x : Wr) (v : Value) : Array Value := #[v, .string x.now, .string x.beg, .string x.others, .int .i64 x.most, .bool x.empty]
def Wr.lies (x : Wr) (B g : Nat) (v : Value) (w : World) : Prop :=
  w.heap[g]? = some (.cells (x.cells v) 117 (0, 0)) ∧ Kd.R Kd.string 9 w B (fun _ => True) v x.lines ∧ B ≤ g
def Wr.fin (x : Wr) : Wr := { x with lines := x.lines ++ [x.now], now := x.others, beg := x.others, empty := true }
/-- What stays as it was while block g and the row v are turned. -/
def Fr (g : Nat) (v v' : Value) (w w' : World) : Prop := w.heap.size ≤ w'.heap.size ∧ (∀ k, k < w.heap.size → k ≠ g → some k ≠ v.ownBlock → w'.heap[k]? = w.heap[k]?) ∧ (v'.ownBlock = v.ownBlock ∨ ∃ b, v'.ownBlock = some b ∧ w.heap.size ≤ b)
theorem Fr.refl (g : Nat) (v : Value) (w : World) : Fr g v v w w := ⟨Nat.le_refl _, fun _ _ _ _ => rfl, .inl rfl⟩
theorem Fr.trans {g : Nat} {v v1 v2 : Value} {w w1 w2 : World} (h : Fr g v v1 w w1) (k : Fr g v1 v2 w1 w2) : Fr g v v2 w w2 := by
  refine ⟨Nat.le_trans h.1 k.1, fun j hj hg hv => ?_, ?_⟩
  · rw [k.2.1 j (by have := h.1; omega) hg ?_, h.2.1 j hj hg hv]
    rcases h.2.2 with e | ⟨b, e, hb⟩
    · rw [e]; exact hv
    · rw [e]; intro e2; injection e2 with e2; omega
  · rcases k.2.2 with e | ⟨b, e, hb⟩
    · rw [e]; exact h.2.2
    · exact .inr ⟨b, e, by have := h.1; omega⟩
theorem Fr.of_below {g : Nat} {v : Value} {w w1 : World} (h : Below w.heap.size w w1) : Fr g v v w w1 := ⟨h.size, fun k hk _ _ => h.block k hk, .inl rfl⟩
theorem Fr.of_grown {g : Nat} {v v1 : Value} {w w1 : World} (h : w.grownBy w1 v.ownBlock) (h2 : v1.ownBlock = v.ownBlock ∨ ∃ b, v1.ownBlock = some b ∧ w.heap.size ≤ b) : Fr g v v1 w w1 := ⟨h.size, fun k hk _ hv => h.block k hk hv, h2⟩
theorem Fr.set {g : Nat} {v : Value} (w : World) (j : Nat) (u : Value) : Fr g v v w (w.setCell ⟨g, j, none⟩ u) := ⟨by simp [World.setCell], fun k _ hg _ => Below.heap_setCell _ _ _ _ hg, .inl rfl⟩
theorem infoStr : (Tryd.prog.info? 9).map (fun i => (i.zero, i.size, i.bytes)) = some (some (.string ⟨#[]⟩), 1, 16) := by kernel_rfl
theorem cell_of {w : World} {g t j : Nat} {cs : Array Value} {u : Value} (h : w.heap[g]? = some (.cells cs t (0, 0))) (hj : cs[j]? = some u) : w.cell? ⟨g, j, none⟩ = some u := by
  simp [World.cell?, h, hj]
set_option maxHeartbeats 1000000 in
set_option maxRecDepth 100000 in
theorem end_any (x : Wr) (B g : Nat) (v : Value) (w : World) (h : x.lies B g v w) (hB : B ≤ w.heap.size) (hl : x.lines.length ≤ 1000000000) :
    Calls Tryd.prog 132 #[.pointer (some ⟨g, 0, none⟩)] w fun e w' => e = .returned (.tuple #[]) ∧ ∃ v', x.fin.lies B g v' w' ∧ Below B w w' ∧ Fr g v v' w w' := by
  obtain ⟨hh, hR, hg⟩ := h
  have hgs : g < w.heap.size := (Array.getElem?_eq_some_iff.1 hh).1
  have c0 : w.cell? ⟨g, 0, none⟩ = some v := cell_of hh rfl
  have c1 : w.cell? ⟨g, 1, none⟩ = some (.string x.now) := cell_of hh rfl
  have hne : some g ≠ v.ownBlock := Kd.R_ne hR hh (by decide)
  have hR' := Aside0.mk hR
  have hh' := Aside0.mk hh
  have c0' : ∀ o, (w.drew.alloc o).cell? ⟨g, 0, none⟩ = some v := fun o => cell_of (blk_alloc (blk_drew hh) o) rfl
  have c1' : ∀ o, (w.drew.alloc o).cell? ⟨g, 1, none⟩ = some (.string x.now) := fun o => cell_of (blk_alloc (blk_drew hh) o) rfl
  have nl : x.lines.length + 1 < 9223372036854775807 := by omega
  clear hR hh
  go_enter Tryd.func132, Tryd.ntmps132
  go_wp2_with fail
  refine start_ (n := 14) (S := fun w' => w'.cell? ⟨g, 0, none⟩ = some v ∧ w'.cell? ⟨g, 1, none⟩ = some (.string x.now)) (ds := [13]) #[false, false, false, false, false, false, false, false, false, false, false, false, false, false] (by kernel_rfl) rfl rfl ⟨c0, c1⟩ (fun hHeld => ?_)
  refine pure_ (i := 0) (N := some 2) (v := ?_) (a' := ?_) #[true, false, false, false, false, false, false, false, false, false, false, false, false, false] rfl rfl (by kernel_rfl) (fun _ _ _ h => h) (Or.inl ⟨by rfl, ?_⟩) ?_ ?_
  rotate_left
  · intro w'
    go_simp
    with_reducible rfl
  rotate_left
  · simp only [Act.put, List.setIfInBounds_toArray, List.set_cons_zero, List.set_cons_succ, i64_w, i32_w]
    rfl
  refine pure_ (i := 1) (N := some 3) (v := ?_) (a' := ?_) #[true, true, false, false, false, false, false, false, false, false, false, false, false, false] rfl rfl (by kernel_rfl) (fun _ _ _ h => h) (Or.inl ⟨by rfl, ?_⟩) ?_ ?_
  rotate_left
  · intro w'
    go_simp
    with_reducible rfl
  rotate_left
  · simp only [Act.put, List.setIfInBounds_toArray, List.set_cons_zero, List.set_cons_succ, i64_w, i32_w]
    rfl
  refine pure_ (i := 2) (N := some 4) (v := ?_) (a' := ?_) #[true, true, true, false, false, false, false, false, false, false, false, false, false, false] rfl rfl (by kernel_rfl) (fun _ _ _ h => h) (Or.inl ⟨by rfl, ?_⟩) ?_ ?_
  rotate_left
  · intro w'
    go_simp
    with_reducible rfl
  rotate_left
  · simp only [Act.put, List.setIfInBounds_toArray, List.set_cons_zero, List.set_cons_succ, i64_w, i32_w]
    rfl
  refine pure_ (i := 3) (N := some 5) (v := ?_) (a' := ?_) #[true, true, true, true, false, false, false, false, false, false, false, false, false, false] rfl rfl (by kernel_rfl) (fun _ _ _ h => h) (Or.inl ⟨by rfl, ?_⟩) ?_ ?_
  rotate_left
  · intro w'
    go_simp
    with_reducible rfl
  rotate_left
  · simp only [Act.put, List.setIfInBounds_toArray, List.set_cons_zero, List.set_cons_succ, i64_w, i32_w]
    rfl
  refine pure_ (i := 5) (N := some 7) (v := ?_) (a' := ?_) #[true, true, true, true, false, true, false, false, false, false, false, false, false, false] rfl rfl (by kernel_rfl) (fun _ _ _ h => h) (Or.inl ⟨by rfl, ?_⟩) ?_ ?_
  rotate_left
  · intro w'
    go_simp
    with_reducible rfl
  rotate_left
  · simp only [Act.put, List.setIfInBounds_toArray, List.set_cons_zero, List.set_cons_succ, i64_w, i32_w]
    rfl
  refine pure_ (i := 6) (N := some 8) (v := ?_) (a' := ?_) #[true, true, true, true, false, true, true, false, false, false, false, false, false, false] rfl rfl (by kernel_rfl) (fun _ _ _ h => h) (Or.inl ⟨by rfl, ?_⟩) ?_ ?_
  rotate_left
  · intro w'
    go_simp
    with_reducible rfl
  rotate_left
  · simp only [Act.put, List.setIfInBounds_toArray, List.set_cons_zero, List.set_cons_succ, i64_w, i32_w]
    rfl
  refine pure_ (i := 7) (N := some 9) (v := ?_) (a' := ?_) #[true, true, true, true, false, true, true, true, false, false, false, false, false, false] rfl rfl (by kernel_rfl) (fun _ _ _ h => h) (Or.inl ⟨by rfl, ?_⟩) ?_ ?_
  rotate_left
  · intro w'
    go_simp
    with_reducible rfl
  rotate_left
  · simp only [Act.put, List.setIfInBounds_toArray, List.set_cons_zero, List.set_cons_succ, i64_w, i32_w]
    rfl
  refine take_ (i := 4) (N := some 6) (v := ?_) (a' := ?_) #[true, true, true, true, true, true, true, true, false, false, false, false, false, false] rfl rfl (by kernel_rfl) (fun _ _ _ h => h) (Or.inl ⟨by rfl, ?_⟩) hHeld ?_ ?_
  rotate_left
  · rintro w' ⟨s0, s1⟩
    go_simp
    with_reducible rfl
  rotate_left
  · simp only [Act.put, List.setIfInBounds_toArray, List.set_cons_zero, List.set_cons_succ, i64_w, i32_w]
    rfl
  refine take_ (i := 8) (N := some 10) (v := ?_) (a' := ?_) #[true, true, true, true, true, true, true, true, true, false, false, false, false, false] rfl rfl (by kernel_rfl) (fun _ _ _ h => h) (Or.inl ⟨by rfl, ?_⟩) hHeld ?_ ?_
  rotate_left
  · rintro w' ⟨s0, s1⟩
    go_simp
    with_reducible rfl
  rotate_left
  · simp only [Act.put, List.setIfInBounds_toArray, List.set_cons_zero, List.set_cons_succ, i64_w, i32_w]
    rfl
  refine one_ (i := 9) (N := some 11) #[true, true, true, true, true, true, true, true, true, true, false, false, false, false] rfl rfl (by kernel_rfl) (by decide) (fun K hK => ?_)
  refine value_ (w1 := ?_) (v := ?_) (by rfl) rfl ?_ ?_
  rotate_left 2
  · go_simp
    constructor
    · rfl
    · rfl
  refine hK.out _ _ ⟨c0' _, c1' _⟩ (fun hHeld => ?_)
  clear hK K
  refine norm_ (a' := ?_) ?_ ?_
  rotate_left
  · show Act.put _ (some 11) _ = _
    simp only [Act.put, List.setIfInBounds_toArray, List.set_cons_zero, List.set_cons_succ, i64_w, i32_w]
    rfl
  refine one_ (i := 10) (N := some 12) #[true, true, true, true, true, true, true, true, true, true, true, false, false, false] rfl rfl (by kernel_rfl) (by decide) (fun K hK => ?_)
  refine Kd.R_append_step Kd.string (w0 := w) B (by rfl) _ _ 27 9 (.string ⟨#[]⟩) 16 (by rfl) Tryd.underlying27 infoStr rfl (by decide) (by decide) v x.lines x.now [.string x.now] (fun _ => True) (fun _ => False) (by rfl) (by rfl) rfl (fun _ hk => hk.elim) (fun _ _ => trivial) (Kd.R_drewN hR'.out 1) (pw_below_drewN (Below.refl B w) 1) (by simpa using hB) (by omega) ?_
  intro v1 w1 hR1 hb1 hg1 hat1
  obtain ⟨A1, k1, rfl⟩ := Kd.R_slice hR1
  have hh1 := (hg1.block g hgs hne).trans hh'.out
  simp only [Wr.cells] at hh1
  have hf1 : w1.frozen? ⟨g, 0, none⟩ = false := by simp [World.frozen?, hh1]
  refine hK.out _ _ ⟨cell_of hh1 rfl, cell_of hh1 rfl⟩ (fun hHeld => ?_)
  clear hK K
  refine norm_ (a' := ?_) ?_ ?_
  rotate_left
  · show Act.put _ (some 12) _ = _
    simp only [Act.put, List.setIfInBounds_toArray, List.set_cons_zero, List.set_cons_succ, i64_w, i32_w]
    rfl
  refine pure_ (i := 11) (N := some 13) (v := ?_) (a' := ?_) #[true, true, true, true, true, true, true, true, true, true, true, true, false, false] rfl rfl (by kernel_rfl) (fun _ _ _ h => h) (Or.inl ⟨by rfl, ?_⟩) ?_ ?_
  rotate_left
  · intro w'
    go_simp
    with_reducible rfl
  rotate_left
  · simp only [Act.put, List.setIfInBounds_toArray, List.set_cons_zero, List.set_cons_succ, i64_w, i32_w]
    rfl
  refine pure_ (i := 12) (N := some 14) (v := ?_) (a' := ?_) #[true, true, true, true, true, true, true, true, true, true, true, true, true, false] rfl rfl (by kernel_rfl) (fun _ _ _ h => h) (Or.inl ⟨by rfl, ?_⟩) ?_ ?_
  rotate_left
  · intro w'
    go_simp
    with_reducible rfl
  rotate_left
  · simp only [Act.put, List.setIfInBounds_toArray, List.set_cons_zero, List.set_cons_succ, i64_w, i32_w]
    rfl
  refine last_ (i := 13) (N := none) #[true, true, true, true, true, true, true, true, true, true, true, true, true, true] rfl rfl (by kernel_rfl) (by decide) (fun K hK => ?_)
  refine skip_ (w1 := ?_) (by rfl) rfl ?_ ?_
  rotate_left
  · go_simp
    rfl
  refine hK.out _ _ ?_
  clear hK K
  refine done_ (by kernel_rfl) ?_

  obtain ⟨w2, hw2⟩ : ∃ w2, w1.setCell ⟨g, 0, none⟩ (.slice A1 (x.lines.length + 1) k1) = w2 := ⟨_, rfl⟩
  have hl2 : (x.lines ++ [x.now]).length = x.lines.length + 1 := by simp
  have hR2 := Aside0.mk (Kd.R_set hR1 hh1 (by decide) 0 (.slice A1 (x.lines.length + 1) k1))
  have hh2 : w2.heap[g]? = some (.cells #[.slice A1 (x.lines.length + 1) k1, .string x.now, .string x.beg, .string x.others, .int .i64 x.most, .bool x.empty] 117 (0, 0)) := by
    rw [← hw2]; exact blk_set hh1 0 _
  have hb2 : Below B w w2 := by rw [← hw2]; exact hb1.setCell hg _
  have hf2 : Fr g v (.slice A1 (x.lines ++ [x.now]).length k1) w w2 := by
    rw [← hw2]
    refine Fr.trans (w1 := w1) (v1 := .slice A1 (x.lines ++ [x.now]).length k1) ⟨hg1.size, fun k hk _ hv => hg1.block k hk hv, hat1⟩ (Fr.set w1 0 _)
  rw [hw2] at hR2
  rw [hw2]
  have hfz : ∀ j, w2.frozen? ⟨g, j, none⟩ = false := fun j => by simp [World.frozen?, hh2]
  clear hHeld hg1 hat1 hh1 hf1 hb1 hR1 c0' c1' hw2
  go_wp2_with fail
  have hfin : ∀ w3 : World, w3 = ((w2.setCell ⟨g, 1, none⟩ (.string x.others)).setCell ⟨g, 2, none⟩ (.string x.others)).setCell ⟨g, 5, none⟩ (.bool true) → ∃ v', x.fin.lies B g v' w3.drew ∧ Below B w w3.drew ∧ Fr g v v' w w3.drew := by
    rintro w3 rfl
    have q1 := blk_set hh2 1 (.string x.others)
    have q2 := blk_set q1 2 (.string x.others)
    have q3 := blk_set q2 5 (.bool true)
    refine ⟨_, ⟨?_, Kd.R_drew (Kd.R_set (Kd.R_set (Kd.R_set hR2.out hh2 (by decide) 1 _) q1 (by decide) 2 _) q2 (by decide) 5 _), hg⟩, below_drew (((hb2.setCell hg _).setCell hg _).setCell hg _), ((hf2.trans (Fr.set _ 1 _)).trans (Fr.set _ 2 _)).trans (Fr.set _ 5 _)⟩
    refine (blk_drew q3).trans ?_
    simp [Wr.cells, Wr.fin]
  have hh2' := Aside0.mk hh2
  have d1 : w2.cell? ⟨g, 1, none⟩ = some (.string x.now) := cell_of hh2 rfl
  have d2 : (w2.setCell ⟨g, 1, none⟩ (.string x.others)).cell? ⟨g, 2, none⟩ = some (.string x.beg) := cell_of (blk_set hh2 1 _) rfl
  have d5 : ((w2.setCell ⟨g, 1, none⟩ (.string x.others)).setCell ⟨g, 2, none⟩ (.string x.others)).cell? ⟨g, 5, none⟩ = some (.bool x.empty) := cell_of (blk_set (blk_set hh2 1 _) 2 _) rfl
  have s3 : w2.cell? ⟨g, 3, none⟩ = some (.string x.others) := cell_of hh2 rfl
  have s3a : (w2.setCell ⟨g, 1, none⟩ (.string x.others)).cell? ⟨g, 3, none⟩ = some (.string x.others) := cell_of (blk_set hh2 1 _) rfl
  have s3b : ((w2.setCell ⟨g, 1, none⟩ (.string x.others)).setCell ⟨g, 2, none⟩ (.string x.others)).cell? ⟨g, 3, none⟩ = some (.string x.others) := cell_of (blk_set (blk_set hh2 1 _) 2 _) rfl
  have z1 : ∀ j, (w2.setCell ⟨g, 1, none⟩ (.string x.others)).frozen? ⟨g, j, none⟩ = false := fun j => by simp [World.frozen?, blk_set hh2 1 _]
  have z2 : ∀ j, ((w2.setCell ⟨g, 1, none⟩ (.string x.others)).setCell ⟨g, 2, none⟩ (.string x.others)).frozen? ⟨g, j, none⟩ = false := fun j => by simp [World.frozen?, blk_set (blk_set hh2 1 _) 2 _]
  have hD : w2.drew.heap[g]? = some (.cells #[.slice A1 (x.lines.length + 1) k1, .string x.now, .string x.beg, .string x.others, .int .i64 x.most, .bool x.empty] 117 (0, 0)) := hh2
  refine start_ (n := 20) (S := fun w' => w'.cell? ⟨g, 3, none⟩ = some (.string x.others)) (ds := [19]) #[false, false, false, false, false, false, false, false, false, false, false, false, false, false, false, false, false, false, false, false] (by kernel_rfl) rfl rfl (s3) (fun hHeld => ?_)
  refine pure_ (i := 0) (N := some 15) (v := ?_) (a' := ?_) #[true, false, false, false, false, false, false, false, false, false, false, false, false, false, false, false, false, false, false, false] rfl rfl (by kernel_rfl) (fun _ _ _ h => h) (Or.inl ⟨by rfl, ?_⟩) ?_ ?_
  rotate_left
  · intro w'
    go_simp
    with_reducible rfl
  rotate_left
  · simp only [Act.put, List.setIfInBounds_toArray, List.set_cons_zero, List.set_cons_succ, i64_w, i32_w]
    rfl
  refine pure_ (i := 1) (N := some 16) (v := ?_) (a' := ?_) #[true, true, false, false, false, false, false, false, false, false, false, false, false, false, false, false, false, false, false, false] rfl rfl (by kernel_rfl) (fun _ _ _ h => h) (Or.inl ⟨by rfl, ?_⟩) ?_ ?_
  rotate_left
  · intro w'
    go_simp
    with_reducible rfl
  rotate_left
  · simp only [Act.put, List.setIfInBounds_toArray, List.set_cons_zero, List.set_cons_succ, i64_w, i32_w]
    rfl
  refine pure_ (i := 2) (N := some 17) (v := ?_) (a' := ?_) #[true, true, true, false, false, false, false, false, false, false, false, false, false, false, false, false, false, false, false, false] rfl rfl (by kernel_rfl) (fun _ _ _ h => h) (Or.inl ⟨by rfl, ?_⟩) ?_ ?_
  rotate_left
  · intro w'
    go_simp
    with_reducible rfl
  rotate_left
  · simp only [Act.put, List.setIfInBounds_toArray, List.set_cons_zero, List.set_cons_succ, i64_w, i32_w]
    rfl
  refine pure_ (i := 3) (N := some 18) (v := ?_) (a' := ?_) #[true, true, true, true, false, false, false, false, false, false, false, false, false, false, false, false, false, false, false, false] rfl rfl (by kernel_rfl) (fun _ _ _ h => h) (Or.inl ⟨by rfl, ?_⟩) ?_ ?_
  rotate_left
  · intro w'
    go_simp
    with_reducible rfl
  rotate_left
  · simp only [Act.put, List.setIfInBounds_toArray, List.set_cons_zero, List.set_cons_succ, i64_w, i32_w]
    rfl
  refine pure_ (i := 4) (N := some 19) (v := ?_) (a' := ?_) #[true, true, true, true, true, false, false, false, false, false, false, false, false, false, false, false, false, false, false, false] rfl rfl (by kernel_rfl) (fun _ _ _ h => h) (Or.inl ⟨by rfl, ?_⟩) ?_ ?_
  rotate_left
  · intro w'
    go_simp
    with_reducible rfl
  rotate_left
  · simp only [Act.put, List.setIfInBounds_toArray, List.set_cons_zero, List.set_cons_succ, i64_w, i32_w]
    rfl
  refine pure_ (i := 5) (N := some 20) (v := ?_) (a' := ?_) #[true, true, true, true, true, true, false, false, false, false, false, false, false, false, false, false, false, false, false, false] rfl rfl (by kernel_rfl) (fun _ _ _ h => h) (Or.inl ⟨by rfl, ?_⟩) ?_ ?_
  rotate_left
  · intro w'
    go_simp
    with_reducible rfl
  rotate_left
  · simp only [Act.put, List.setIfInBounds_toArray, List.set_cons_zero, List.set_cons_succ, i64_w, i32_w]
    rfl
  refine pure_ (i := 7) (N := some 22) (v := ?_) (a' := ?_) #[true, true, true, true, true, true, false, true, false, false, false, false, false, false, false, false, false, false, false, false] rfl rfl (by kernel_rfl) (fun _ _ _ h => h) (Or.inl ⟨by rfl, ?_⟩) ?_ ?_
  rotate_left
  · intro w'
    go_simp
    with_reducible rfl
  rotate_left
  · simp only [Act.put, List.setIfInBounds_toArray, List.set_cons_zero, List.set_cons_succ, i64_w, i32_w]
    rfl
  refine pure_ (i := 8) (N := some 23) (v := ?_) (a' := ?_) #[true, true, true, true, true, true, false, true, true, false, false, false, false, false, false, false, false, false, false, false] rfl rfl (by kernel_rfl) (fun _ _ _ h => h) (Or.inl ⟨by rfl, ?_⟩) ?_ ?_
  rotate_left
  · intro w'
    go_simp
    with_reducible rfl
  rotate_left
  · simp only [Act.put, List.setIfInBounds_toArray, List.set_cons_zero, List.set_cons_succ, i64_w, i32_w]
    rfl
  refine pure_ (i := 9) (N := some 24) (v := ?_) (a' := ?_) #[true, true, true, true, true, true, false, true, true, true, false, false, false, false, false, false, false, false, false, false] rfl rfl (by kernel_rfl) (fun _ _ _ h => h) (Or.inl ⟨by rfl, ?_⟩) ?_ ?_
  rotate_left
  · intro w'
    go_simp
    with_reducible rfl
  rotate_left
  · simp only [Act.put, List.setIfInBounds_toArray, List.set_cons_zero, List.set_cons_succ, i64_w, i32_w]
    rfl
  refine take_ (i := 6) (N := some 21) (v := ?_) (a' := ?_) #[true, true, true, true, true, true, true, true, true, true, false, false, false, false, false, false, false, false, false, false] rfl rfl (by kernel_rfl) (fun _ _ _ h => h) (Or.inl ⟨by rfl, ?_⟩) hHeld ?_ ?_
  rotate_left
  · intro w' s0
    go_simp
    with_reducible rfl
  rotate_left
  · simp only [Act.put, List.setIfInBounds_toArray, List.set_cons_zero, List.set_cons_succ, i64_w, i32_w]
    rfl
  refine take_ (i := 10) (N := some 25) (v := ?_) (a' := ?_) #[true, true, true, true, true, true, true, true, true, true, true, false, false, false, false, false, false, false, false, false] rfl rfl (by kernel_rfl) (fun _ _ _ h => h) (Or.inl ⟨by rfl, ?_⟩) hHeld ?_ ?_
  rotate_left
  · intro w' s0
    go_simp
    with_reducible rfl
  rotate_left
  · simp only [Act.put, List.setIfInBounds_toArray, List.set_cons_zero, List.set_cons_succ, i64_w, i32_w]
    rfl
  refine pure_ (i := 11) (N := some 26) (v := ?_) (a' := ?_) #[true, true, true, true, true, true, true, true, true, true, true, true, false, false, false, false, false, false, false, false] rfl rfl (by kernel_rfl) (fun _ _ _ h => h) (Or.inl ⟨by rfl, ?_⟩) ?_ ?_
  rotate_left
  · intro w'
    go_simp
    with_reducible rfl
  rotate_left
  · simp only [Act.put, List.setIfInBounds_toArray, List.set_cons_zero, List.set_cons_succ, i64_w, i32_w]
    rfl
  refine pure_ (i := 12) (N := some 27) (v := ?_) (a' := ?_) #[true, true, true, true, true, true, true, true, true, true, true, true, true, false, false, false, false, false, false, false] rfl rfl (by kernel_rfl) (fun _ _ _ h => h) (Or.inl ⟨by rfl, ?_⟩) ?_ ?_
  rotate_left
  · intro w'
    go_simp
    with_reducible rfl
  rotate_left
  · simp only [Act.put, List.setIfInBounds_toArray, List.set_cons_zero, List.set_cons_succ, i64_w, i32_w]
    rfl
  refine one_ (i := 13) (N := none) #[true, true, true, true, true, true, true, true, true, true, true, true, true, true, false, false, false, false, false, false] rfl rfl (by kernel_rfl) (by decide) (fun K hK => ?_)
  refine skip_ (w1 := ?_) (by rfl) rfl ?_ ?_
  rotate_left
  · go_simp
    rfl
  refine hK.out _ _ (s3a) (fun hHeld => ?_)
  clear hK K
  refine pure_ (i := 14) (N := some 28) (v := ?_) (a' := ?_) #[true, true, true, true, true, true, true, true, true, true, true, true, true, true, true, false, false, false, false, false] rfl rfl (by kernel_rfl) (fun _ _ _ h => h) (Or.inl ⟨by rfl, ?_⟩) ?_ ?_
  rotate_left
  · intro w'
    go_simp
    with_reducible rfl
  rotate_left
  · simp only [Act.put, List.setIfInBounds_toArray, List.set_cons_zero, List.set_cons_succ, i64_w, i32_w]
    rfl
  refine pure_ (i := 15) (N := some 29) (v := ?_) (a' := ?_) #[true, true, true, true, true, true, true, true, true, true, true, true, true, true, true, true, false, false, false, false] rfl rfl (by kernel_rfl) (fun _ _ _ h => h) (Or.inl ⟨by rfl, ?_⟩) ?_ ?_
  rotate_left
  · intro w'
    go_simp
    with_reducible rfl
  rotate_left
  · simp only [Act.put, List.setIfInBounds_toArray, List.set_cons_zero, List.set_cons_succ, i64_w, i32_w]
    rfl
  refine one_ (i := 16) (N := none) #[true, true, true, true, true, true, true, true, true, true, true, true, true, true, true, true, true, false, false, false] rfl rfl (by kernel_rfl) (by decide) (fun K hK => ?_)
  refine skip_ (w1 := ?_) (by rfl) rfl ?_ ?_
  rotate_left
  · go_simp
    rfl
  refine hK.out _ _ (s3b) (fun hHeld => ?_)
  clear hK K
  refine pure_ (i := 17) (N := some 30) (v := ?_) (a' := ?_) #[true, true, true, true, true, true, true, true, true, true, true, true, true, true, true, true, true, true, false, false] rfl rfl (by kernel_rfl) (fun _ _ _ h => h) (Or.inl ⟨by rfl, ?_⟩) ?_ ?_
  rotate_left
  · intro w'
    go_simp
    with_reducible rfl
  rotate_left
  · simp only [Act.put, List.setIfInBounds_toArray, List.set_cons_zero, List.set_cons_succ, i64_w, i32_w]
    rfl
  refine pure_ (i := 18) (N := some 31) (v := ?_) (a' := ?_) #[true, true, true, true, true, true, true, true, true, true, true, true, true, true, true, true, true, true, true, false] rfl rfl (by kernel_rfl) (fun _ _ _ h => h) (Or.inl ⟨by rfl, ?_⟩) ?_ ?_
  rotate_left
  · intro w'
    go_simp
    with_reducible rfl
  rotate_left
  · simp only [Act.put, List.setIfInBounds_toArray, List.set_cons_zero, List.set_cons_succ, i64_w, i32_w]
    rfl
  refine last_ (i := 19) (N := none) #[true, true, true, true, true, true, true, true, true, true, true, true, true, true, true, true, true, true, true, true] rfl rfl (by kernel_rfl) (by decide) (fun K hK => ?_)
  refine skip_ (w1 := ?_) (by rfl) rfl ?_ ?_
  rotate_left
  · go_simp
    rfl
  refine hK.out _ _ ?_
  clear hK K
  refine done_ (by kernel_rfl) ?_

  go_end0
  exact ⟨rfl, hfin _ rfl⟩
end Go.Proofs.YthdalpminhbckaaDoor.G
