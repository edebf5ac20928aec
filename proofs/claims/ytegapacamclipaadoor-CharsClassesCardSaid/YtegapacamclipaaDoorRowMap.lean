/- CharsClasses: the rows, a map of arrays that a call makes: walked by hand. -/
import Derived.Test.YtegapacamclipaaDoorProg
import Derived.Test.YtegapacamclipaaDoorCls
import Derived.WalkKit
import Derived.Carry
import Derived.MapKept
import Derived.Below
set_option linter.unusedVariables false
set_option linter.unusedSimpArgs false
namespace Go.Proofs.YtegapacamclipaaDoor.G
open Go.RowKit Go.Proofs.YtegapacamclipaaDoor.Cls
/-- The names of the rows. -/
def nameR : Fin 8 → ByteArray
  | 0 => ⟨#[117, 112, 112, 101, 114]⟩ | 1 => ⟨#[108, 111, 119, 101, 114]⟩ | 2 => ⟨#[111, 116, 104, 101, 114]⟩ | 3 => ⟨#[100, 105, 103, 105, 116]⟩
  | 4 => ⟨#[109, 97, 114, 107]⟩ | 5 => ⟨#[98, 108, 97, 110, 107]⟩ | 6 => ⟨#[108, 105, 110, 101]⟩ | 7 => ⟨#[97, 110, 121]⟩
def flatP (l : List (Nat × Nat)) : List Value := l.flatMap fun x => [.int .i64 (x.1 : Int), .int .i64 (x.2 : Int)]
def rowV (p : Fin 8) : Value := .agg (flatP (rowN p)).toArray
def entR (p : Fin 8) : MapEntry := ⟨.string (nameR p), rowV p, p.1⟩
def rowsE : Array MapEntry := #[entR 0, entR 1, entR 2, entR 3, entR 4, entR 5, entR 6, entR 7]
theorem set_push {α : Type} (a : Array α) (x y : α) : (a.push x).setIfInBounds a.size y = a.push y := by
  apply Array.ext
  · simp
  · intro i h1 h2
    simp only [Array.size_push] at h2
    by_cases h : a.size = i
    · subst h
      simp
    · rw [Array.getElem_setIfInBounds_ne (by simp; omega) h, Array.getElem_push_lt (by omega), Array.getElem_push_lt (by omega)]
theorem ins_run (w : World) (es : Array MapEntry) (c : Nat) (k : ByteArray) (v : Value) (h : Instr.findNow .string (.string k) es.toList 0 = some none) :
    (Instr.mapUpdate 92 (.map (some w.heap.size)) (.string k) v).run Tryd.prog (w.alloc (.map es c)) = .ok () (w.alloc (.map (es.push ⟨.string k, v, c⟩) (c + 1))) := by
  have hb : (w.alloc (.map es c)).heap[w.heap.size]? = some (.map es c) := heap_alloc_new w _
  have hck : ∀ W : World, (Instr.checkKey false 10000 9 (.string k)).run Tryd.prog W = .ok () W := fun W => by
    show (Instr.checkKey false (9999 + 1) 9 (.string k)).run Tryd.prog W = .ok () W
    rw [Instr.checkKey]
    simp [run_underlying Tryd.underlying9]
  have hf : ∀ W : World, (Instr.findKey 9 (.string k) es.toList).run Tryd.prog W = .ok none W := fun W => by
    simp [Instr.findKey, run_underlying Tryd.underlying9, h]
  simp [Instr.mapUpdate, run_underlying Tryd.underlying92, MapKept.run_getObj_map hb, hck, hf, MapKept.run_setObj_map _ hb, Result.andThen]
  show ({ w with heap := _ } : World) = { w with heap := _ }
  refine congrArg (fun h => ({ w with heap := h } : World)) ?_
  exact set_push _ _ _
theorem find_row (p : Fin 8) : Instr.findNow .string (.string (nameR p)) rowsE.toList 0 = some (some (p.1, rowV p)) := by
  match p with
  | 0 => rfl | 1 => rfl | 2 => rfl | 3 => rfl | 4 => rfl | 5 => rfl | 6 => rfl | 7 => rfl
theorem look_run (w : World) (b : Nat) (c : Nat) (hb : w.heap[b]? = some (.map rowsE c)) (p : Fin 8) :
    (Instr.lookup 92 (.map (some b)) (.string (nameR p)) false).run Tryd.prog w = .ok (rowV p) w := by
  have hck : ∀ e : Bool, (Instr.checkKey e 10000 9 (.string (nameR p))).run Tryd.prog w = .ok () w := fun e => by
    show (Instr.checkKey e (9999 + 1) 9 (.string (nameR p))).run Tryd.prog w = .ok () w
    rw [Instr.checkKey]
    simp [run_underlying Tryd.underlying9]
  have hf : (Instr.findKey 9 (.string (nameR p)) rowsE.toList).run Tryd.prog w = .ok (some (p.1, rowV p)) w := by
    simp [Instr.findKey, run_underlying Tryd.underlying9, find_row p]
  generalize rowsE = E at *
  simp [Instr.lookup, run_underlying Tryd.underlying92, MapKept.run_getObj_map hb, hck, hf]
set_option maxHeartbeats 4000000 in
set_option maxRecDepth 100000 in
theorem rows_any (w : World) : Calls Tryd.prog 94 #[] w fun e w' => e = .returned (.map (some w.heap.size)) ∧ w' = w.alloc (.map rowsE 8) := by
  have hmm := @run_makeMap Tryd.prog
  have i0 : ∀ v, (Instr.mapUpdate 92 (.map (some w.heap.size)) (.string ⟨#[117, 112, 112, 101, 114]⟩) v).run Tryd.prog (w.alloc (.map #[] 0)) = .ok () (w.alloc (.map #[⟨.string (nameR 0), v, 0⟩] 1)) := fun v => ins_run w #[] 0 _ v rfl
  have i1 : ∀ v v0, (Instr.mapUpdate 92 (.map (some w.heap.size)) (.string ⟨#[108, 111, 119, 101, 114]⟩) v).run Tryd.prog (w.alloc (.map #[⟨.string (nameR 0), v0, 0⟩] 1)) = .ok () (w.alloc (.map #[⟨.string (nameR 0), v0, 0⟩, ⟨.string (nameR 1), v, 1⟩] 2)) := fun v v0 => ins_run w #[⟨.string (nameR 0), v0, 0⟩] 1 _ v rfl
  have i2 : ∀ v v0 v1, (Instr.mapUpdate 92 (.map (some w.heap.size)) (.string ⟨#[111, 116, 104, 101, 114]⟩) v).run Tryd.prog (w.alloc (.map #[⟨.string (nameR 0), v0, 0⟩, ⟨.string (nameR 1), v1, 1⟩] 2)) = .ok () (w.alloc (.map #[⟨.string (nameR 0), v0, 0⟩, ⟨.string (nameR 1), v1, 1⟩, ⟨.string (nameR 2), v, 2⟩] 3)) := fun v v0 v1 => ins_run w #[⟨.string (nameR 0), v0, 0⟩, ⟨.string (nameR 1), v1, 1⟩] 2 _ v rfl
  have i3 : ∀ v v0 v1 v2, (Instr.mapUpdate 92 (.map (some w.heap.size)) (.string ⟨#[100, 105, 103, 105, 116]⟩) v).run Tryd.prog (w.alloc (.map #[⟨.string (nameR 0), v0, 0⟩, ⟨.string (nameR 1), v1, 1⟩, ⟨.string (nameR 2), v2, 2⟩] 3)) = .ok () (w.alloc (.map #[⟨.string (nameR 0), v0, 0⟩, ⟨.string (nameR 1), v1, 1⟩, ⟨.string (nameR 2), v2, 2⟩, ⟨.string (nameR 3), v, 3⟩] 4)) := fun v v0 v1 v2 => ins_run w #[⟨.string (nameR 0), v0, 0⟩, ⟨.string (nameR 1), v1, 1⟩, ⟨.string (nameR 2), v2, 2⟩] 3 _ v rfl
  have i4 : ∀ v v0 v1 v2 v3, (Instr.mapUpdate 92 (.map (some w.heap.size)) (.string ⟨#[109, 97, 114, 107]⟩) v).run Tryd.prog (w.alloc (.map #[⟨.string (nameR 0), v0, 0⟩, ⟨.string (nameR 1), v1, 1⟩, ⟨.string (nameR 2), v2, 2⟩, ⟨.string (nameR 3), v3, 3⟩] 4)) = .ok () (w.alloc (.map #[⟨.string (nameR 0), v0, 0⟩, ⟨.string (nameR 1), v1, 1⟩, ⟨.string (nameR 2), v2, 2⟩, ⟨.string (nameR 3), v3, 3⟩, ⟨.string (nameR 4), v, 4⟩] 5)) := fun v v0 v1 v2 v3 => ins_run w #[⟨.string (nameR 0), v0, 0⟩, ⟨.string (nameR 1), v1, 1⟩, ⟨.string (nameR 2), v2, 2⟩, ⟨.string (nameR 3), v3, 3⟩] 4 _ v rfl
  have i5 : ∀ v v0 v1 v2 v3 v4, (Instr.mapUpdate 92 (.map (some w.heap.size)) (.string ⟨#[98, 108, 97, 110, 107]⟩) v).run Tryd.prog (w.alloc (.map #[⟨.string (nameR 0), v0, 0⟩, ⟨.string (nameR 1), v1, 1⟩, ⟨.string (nameR 2), v2, 2⟩, ⟨.string (nameR 3), v3, 3⟩, ⟨.string (nameR 4), v4, 4⟩] 5)) = .ok () (w.alloc (.map #[⟨.string (nameR 0), v0, 0⟩, ⟨.string (nameR 1), v1, 1⟩, ⟨.string (nameR 2), v2, 2⟩, ⟨.string (nameR 3), v3, 3⟩, ⟨.string (nameR 4), v4, 4⟩, ⟨.string (nameR 5), v, 5⟩] 6)) := fun v v0 v1 v2 v3 v4 => ins_run w #[⟨.string (nameR 0), v0, 0⟩, ⟨.string (nameR 1), v1, 1⟩, ⟨.string (nameR 2), v2, 2⟩, ⟨.string (nameR 3), v3, 3⟩, ⟨.string (nameR 4), v4, 4⟩] 5 _ v rfl
  have i6 : ∀ v v0 v1 v2 v3 v4 v5, (Instr.mapUpdate 92 (.map (some w.heap.size)) (.string ⟨#[108, 105, 110, 101]⟩) v).run Tryd.prog (w.alloc (.map #[⟨.string (nameR 0), v0, 0⟩, ⟨.string (nameR 1), v1, 1⟩, ⟨.string (nameR 2), v2, 2⟩, ⟨.string (nameR 3), v3, 3⟩, ⟨.string (nameR 4), v4, 4⟩, ⟨.string (nameR 5), v5, 5⟩] 6)) = .ok () (w.alloc (.map #[⟨.string (nameR 0), v0, 0⟩, ⟨.string (nameR 1), v1, 1⟩, ⟨.string (nameR 2), v2, 2⟩, ⟨.string (nameR 3), v3, 3⟩, ⟨.string (nameR 4), v4, 4⟩, ⟨.string (nameR 5), v5, 5⟩, ⟨.string (nameR 6), v, 6⟩] 7)) := fun v v0 v1 v2 v3 v4 v5 => ins_run w #[⟨.string (nameR 0), v0, 0⟩, ⟨.string (nameR 1), v1, 1⟩, ⟨.string (nameR 2), v2, 2⟩, ⟨.string (nameR 3), v3, 3⟩, ⟨.string (nameR 4), v4, 4⟩, ⟨.string (nameR 5), v5, 5⟩] 6 _ v rfl
  have i7 : ∀ v v0 v1 v2 v3 v4 v5 v6, (Instr.mapUpdate 92 (.map (some w.heap.size)) (.string ⟨#[97, 110, 121]⟩) v).run Tryd.prog (w.alloc (.map #[⟨.string (nameR 0), v0, 0⟩, ⟨.string (nameR 1), v1, 1⟩, ⟨.string (nameR 2), v2, 2⟩, ⟨.string (nameR 3), v3, 3⟩, ⟨.string (nameR 4), v4, 4⟩, ⟨.string (nameR 5), v5, 5⟩, ⟨.string (nameR 6), v6, 6⟩] 7)) = .ok () (w.alloc (.map #[⟨.string (nameR 0), v0, 0⟩, ⟨.string (nameR 1), v1, 1⟩, ⟨.string (nameR 2), v2, 2⟩, ⟨.string (nameR 3), v3, 3⟩, ⟨.string (nameR 4), v4, 4⟩, ⟨.string (nameR 5), v5, 5⟩, ⟨.string (nameR 6), v6, 6⟩, ⟨.string (nameR 7), v, 7⟩] 8)) := fun v v0 v1 v2 v3 v4 v5 v6 => ins_run w #[⟨.string (nameR 0), v0, 0⟩, ⟨.string (nameR 1), v1, 1⟩, ⟨.string (nameR 2), v2, 2⟩, ⟨.string (nameR 3), v3, 3⟩, ⟨.string (nameR 4), v4, 4⟩, ⟨.string (nameR 5), v5, 5⟩, ⟨.string (nameR 6), v6, 6⟩] 7 _ v rfl
  go_enter Tryd.func94, Tryd.ntmps94
  go_wp2

  go_ret
  exact ⟨rfl, rfl⟩
end Go.Proofs.YtegapacamclipaaDoor.G
