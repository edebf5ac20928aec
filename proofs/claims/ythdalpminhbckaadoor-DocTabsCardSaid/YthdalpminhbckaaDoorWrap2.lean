/- doc: cutting a text and putting a word on a line, proved by walking them. -/
import Derived.Test.YthdalpminhbckaaDoorWrap
import Derived.Deep.DeepCutAuto
import Derived.Deep.CutRange
set_option linter.unusedVariables false
set_option linter.unusedSimpArgs false
namespace Go.Proofs.YthdalpminhbckaaDoor.G
open Go.RowKit Go.Proofs.YthdalpminhbckaaDoorW.PrintWords Go.Proofs.YthdalpminhbckaaDoorW.PrintMore Go.Proofs.YthdalpminhbckaaDoorW.PrintLast Go.Proofs.YthdalpminhbckaaDoor.Tx Go.Lib

theorem wd_le (s : ByteArray) : wd s ≤ s.size := by
  unfold wd
  rw [size_len]
  exact runes_length _
/-- Where so many characters end. -/
def cutN : Nat → List UInt8 → Nat
  | 0, _ => 0
  | n + 1, l => if l = [] then 0 else (dec l).2 + cutN n (l.drop (dec l).2)
theorem cutN_nil (n : Nat) : cutN n [] = 0 := by cases n <;> simp [cutN]
theorem cutN_le : ∀ (n : Nat) (l : List UInt8), cutN n l ≤ l.length
  | 0, l => by simp [cutN]
  | n + 1, l => by
    unfold cutN
    by_cases e : l = []
    · simp [e]
    · rw [if_neg e]
      have h1 := dec_fits l e
      have h2 := cutN_le n (l.drop (dec l).2)
      rw [List.length_drop] at h2
      omega
theorem cutN_pos (n : Nat) (l : List UInt8) (e : l ≠ []) : 1 ≤ cutN (n + 1) l := by
  unfold cutN
  rw [if_neg e]
  have h1 := dec_width l
  omega
theorem ret_two {a b c d : ByteArray} (h : a = b) (h2 : c = d) : Ending.returned (.tuple #[.string a, .string c]) = .returned (.tuple #[.string b, .string d]) := by rw [h, h2]
theorem ext_all (s : ByteArray) : s.extract 0 s.size = s := by simp
theorem ext_none (s : ByteArray) : s.extract s.size s.size = ⟨#[]⟩ := by simp; rfl
set_option maxHeartbeats 1000000 in
set_option maxRecDepth 100000 in
theorem cut_any (s : ByteArray) (n : Nat) (w : World) (hs : s.size ≤ 140737488351232) (hn : n ≤ 140737488351232) :
    Calls Tryd.prog 133 #[.string s, .int .i64 n] w fun e w' => e = .returned (.tuple #[.string (s.extract 0 (cutN n s.data.toList)), .string (s.extract (cutN n s.data.toList) s.size)]) ∧ Below w.heap.size w w' := by
  go_enter Tryd.func133, Tryd.ntmps133
  go_wp2_with fail
  go_loopw [1] (fun v wr => ∃ (pos m : Nat), v = .int .i64 m ∧ pos ≤ s.size ∧ m ≤ 140737488351232 ∧ wr.heap[w.heap.size]? = some (.stringIter s pos) ∧ Below w.heap.size w wr ∧ Aside0 (pos + cutN m (s.data.toList.drop pos) = cutN n s.data.toList)) (fun _ wr => s.size - wr.iterPos w.heap.size)
  case atStart =>
    exact ⟨0, n, rfl, by omega, by omega, by simp [World.iter_heap], (Below.refl _ w).alloc (Nat.le_refl _) _, ⟨by simp⟩⟩
  case round =>
    obtain ⟨pos, m, rfl, hpl, hml, hit, hbw, hv⟩ := hrel
    have hszr : w.heap.size < wr.heap.size := (Array.getElem?_eq_some_iff.1 hit).1
    by_cases hp : pos < s.size
    · have hnx : ∀ ty, (Instr.next (.pointer (some ⟨w.heap.size, 0, none⟩)) true ty).run Tryd.prog wr = _ := fun ty => Lib.run_next_any_at wr w.heap.size s pos ty hit hp
      rw [dec_eq] at hnx
      have hne := Aside0.mk (wr_drop hp)
      have hwd := dec_width (s.data.toList.drop pos)
      have hft := dec_fits _ hne.out
      rw [List.length_drop, ← size_len] at hft
      have hwdr := Aside0.mk (List.drop_drop (l := s.data.toList) (i := (dec (s.data.toList.drop pos)).2) (j := pos))
      have hcn : Aside0 (∀ j, cutN (j + 1) (s.data.toList.drop pos) = (dec (s.data.toList.drop pos)).2 + cutN j ((s.data.toList.drop pos).drop (dec (s.data.toList.drop pos)).2)) := ⟨fun j => by rw [cutN, if_neg hne.out]⟩
      generalize hd : dec (s.data.toList.drop pos) = d at *
      obtain ⟨c, k⟩ := d
      simp only at *
      have hit2 := Lib.iterAt_heap wr w.heap.size s pos (pos + k) hit
      have hbw2 := Aside0.mk (Lib.below_iterAt hbw (k := w.heap.size) (by omega) s (pos + k))
      clear hd
      rcases m with _ | m
      · have hz : ((((0 : Nat)) : Int) == 0) = true := rfl
        have hv2 := hv.out
        simp only [cutN, Nat.add_zero] at hv2
        have hV := Aside0.mk hv2
        clear hv hv2
        have b1 : (0 : Int) ≤ (pos : Int) := by omega
        have b2 : (pos : Int) ≤ (s.size : Int) := by omega
        go_wp2_with fail
        go_quiet (fail)
        go_wp2_with fail
        go_ret2
        refine ⟨ret_two ?_ ?_, pw_below_drewN hbw2.out _⟩
        · rw [← hV.out]
        · rw [← hV.out]
      · have hz : (((m + 1 : Nat) : Int) == 0) = false := by rw [beq_eq_false_iff_ne]; omega
        go_wp2_with fail
        go_roundw
        case rel =>
          refine ⟨pos + k, m, ?_, by omega, by omega, hit2, hbw2.out, ⟨?_⟩⟩
          · congr 1
          · rw [← hv.out, hcn.out, hwdr.out]
            omega
        case measure =>
          simp only [World.iterPos, hit2, hit]
          omega
    · have hnx : ∀ ty, (Instr.next (.pointer (some ⟨w.heap.size, 0, none⟩)) true ty).run Tryd.prog wr = _ := fun ty => Lib.run_next_end_at wr w.heap.size s pos ty hit hp
      go_wp2_with fail
      have hv2 : cutN n s.data.toList = s.size := by
        rw [← hv.out, List.drop_of_length_le (by rw [← size_len]; omega), cutN_nil]
        omega
      go_ret2
      rw [hv2, ext_all, ext_none]
      exact ⟨rfl, hbw⟩

/-! ### putting a word -/
def cutW (y : Wr) (s : ByteArray) : Nat := cutN (max (1 : Int) (y.most - (wd y.now : Int))).toNat s.data.toList
/-- A word that is longer than a line is cut. -/
def Wr.loop : Nat → Wr → ByteArray → Wr × ByteArray
  | 0, y, s => (y, s)
  | f + 1, y, s => if (wd y.now : Int) + wd s > y.most then (if cutW y s = s.size then (y, s) else Wr.loop f ({ y with now := y.now ++ s.extract 0 (cutW y s) } : Wr).fin (s.extract (cutW y s) s.size)) else (y, s)
def sp : ByteArray := ⟨#[32]⟩
def Wr.fits (x : Wr) (s : ByteArray) : Bool := !x.empty && decide ((wd x.now : Int) + 1 + wd s ≤ x.most)
def Wr.alone (x : Wr) (s : ByteArray) : Bool := x.empty && (x.lines.isEmpty && (decide (x.now.size ≠ 0) && (decide ((wd x.now : Int) + wd s > x.most) && decide ((wd x.others : Int) + wd s ≤ x.most))))
def Wr.start (x : Wr) (s : ByteArray) : Wr := if !x.empty || x.alone s then x.fin else x
def Wr.put (x : Wr) (s : ByteArray) : Wr :=
  if x.fits s then { x with now := x.now ++ (sp ++ s) }
  else { ((x.start s).loop (s.size + 1) s).1 with now := ((x.start s).loop (s.size + 1) s).1.now ++ ((x.start s).loop (s.size + 1) s).2, empty := false }
theorem lies_cell0 {x : Wr} {B g : Nat} {v : Value} {w : World} (h : x.lies B g v w) : w.cell? ⟨g, 0, none⟩ = some v := cell_of h.1 rfl
theorem lies_cell1 {x : Wr} {B g : Nat} {v : Value} {w : World} (h : x.lies B g v w) : w.cell? ⟨g, 1, none⟩ = some (.string x.now) := cell_of h.1 rfl
theorem lies_cell3 {x : Wr} {B g : Nat} {v : Value} {w : World} (h : x.lies B g v w) : w.cell? ⟨g, 3, none⟩ = some (.string x.others) := cell_of h.1 rfl
theorem lies_cell4 {x : Wr} {B g : Nat} {v : Value} {w : World} (h : x.lies B g v w) : w.cell? ⟨g, 4, none⟩ = some (.int .i64 x.most) := cell_of h.1 rfl
theorem lies_cell5 {x : Wr} {B g : Nat} {v : Value} {w : World} (h : x.lies B g v w) : w.cell? ⟨g, 5, none⟩ = some (.bool x.empty) := cell_of h.1 rfl
theorem lies_free {x : Wr} {B g : Nat} {v : Value} {w : World} (h : x.lies B g v w) (j : Nat) : w.frozen? ⟨g, j, none⟩ = false := by simp [World.frozen?, h.1]
theorem lies_below {x : Wr} {B g : Nat} {v : Value} {w w1 : World} (h : x.lies B g v w) (hb : Below w.heap.size w w1) : x.lies B g v w1 :=
  ⟨(hb.block g (Array.getElem?_eq_some_iff.1 h.1).1).trans h.1, Kd.R_below h.2.1 hb, h.2.2⟩
theorem lies_now {x : Wr} {B g : Nat} {v : Value} {w : World} (h : x.lies B g v w) (s : ByteArray) : ({ x with now := s } : Wr).lies B g v (w.setCell ⟨g, 1, none⟩ (.string s)) :=
  ⟨by rw [blk_set h.1 1 (.string s)]; simp [Wr.cells], Kd.R_set h.2.1 h.1 (by decide) 1 _, h.2.2⟩
theorem lies_empty {x : Wr} {B g : Nat} {v : Value} {w : World} (h : x.lies B g v w) (b : Bool) : ({ x with empty := b } : Wr).lies B g v (w.setCell ⟨g, 5, none⟩ (.bool b)) :=
  ⟨by rw [blk_set h.1 5 (.bool b)]; simp [Wr.cells], Kd.R_set h.2.1 h.1 (by decide) 5 _, h.2.2⟩
/-- Where the wrapper stands behind a call: its block and row, what else is as it was. -/
structure At (x : Wr) (B g : Nat) (v v' : Value) (w w' : World) : Prop where
  lies : x.lies B g v' w'
  below : Below B w w'
  fr : Fr g v v' w w'
theorem At.now_ {x : Wr} {B g : Nat} {v v' : Value} {w w' : World} (h : At x B g v v' w w') (s : ByteArray) : At { x with now := s } B g v v' w (w'.setCell ⟨g, 1, none⟩ (.string s)) :=
  ⟨lies_now h.lies s, h.below.setCell h.lies.2.2 _, h.fr.trans (Fr.set _ 1 _)⟩
theorem At.empty_ {x : Wr} {B g : Nat} {v v' : Value} {w w' : World} (h : At x B g v v' w w') (b : Bool) : At { x with empty := b } B g v v' w (w'.setCell ⟨g, 5, none⟩ (.bool b)) :=
  ⟨lies_empty h.lies b, h.below.setCell h.lies.2.2 _, h.fr.trans (Fr.set _ 5 _)⟩
theorem At.then_ {x : Wr} {B g : Nat} {v v' : Value} {w w' w2 : World} (h : At x B g v v' w w') (hB : B ≤ w'.heap.size) (hb : Below w'.heap.size w' w2) : At x B g v v' w w2 :=
  ⟨lies_below h.lies hb, below_then h.below hB hb, h.fr.trans (Fr.of_below hb)⟩
theorem At.drew_ {x : Wr} {B g : Nat} {v v' : Value} {w w' : World} (h : At x B g v v' w w') : At x B g v v' w w'.drew := ⟨⟨h.lies.1, Kd.R_drew h.lies.2.1, h.lies.2.2⟩, below_drew h.below, h.fr⟩
theorem At.size_ {x : Wr} {B g : Nat} {v v' : Value} {w w' : World} (h : At x B g v v' w w') (hB : B ≤ w.heap.size) : B ≤ w'.heap.size := Nat.le_trans hB h.fr.1
theorem At.end_ {x y : Wr} {B g : Nat} {v v' v2 : Value} {w w' w2 : World} (h : At x B g v v' w w') (hl : y.lies B g v2 w2) (hb : Below B w' w2) (hf : Fr g v' v2 w' w2) : At y B g v v2 w w2 :=
  ⟨hl, h.below.trans hb, h.fr.trans hf⟩

end Go.Proofs.YthdalpminhbckaaDoor.G
