/- Of this claim's texts (RowP): the declarations that the claim reaches (slimclaim.py). -/
import Derived.Deep.Slices
import Derived.SizedLaws
import Derived.OpenShut
import Derived.ChangeArms
import Derived.Test.YtallfkecjibpmaaDoorVR3
set_option linter.unusedVariables false
set_option linter.unusedSimpArgs false
namespace Go.Proofs.YtallfkecjibpmaaDoor.G
open Go.RowKit Go.Deep Go.ChangeShapes Go.WideShapes Go.Proofs.YtallfkecjibpmaaDoorW.PrintWords Go.Proofs.YtallfkecjibpmaaDoor.R
theorem weights_all_mem {H : Type} {P : Program} {e : TypeId} : ∀ {l : List (DataW H)} {d : DataW H}, d ∈ l → ∀ n ∈ d.weights P e, n ∈ DataW.weightsAll P e l
  | [], _, hd, _, _ => by cases hd
  | d0 :: r, d, hd, n, hn => by
    simp only [DataW.weightsAll, List.mem_append]
    rcases List.mem_cons.1 hd with rfl | hd
    · exact .inl hn
    · exact .inr (weights_all_mem hd n hn)
theorem open_pairs {H : Type} {enc : TypeId × Value → H} {P : Program} {W : World} {base : Nat} {spare : Nat → Bool} {held : Bool} {t e es : TypeId} {a : Option Addr} {len cap : Nat} {d : DataW H} {ps : List MemPlace} {ts : List TypeId} {ds : List (DataW H)} {j : Nat}
    (ht : P.underlying t = some (.slice e)) (he : P.underlying e = some (.array 2 es)) (hes : P.underlying es = some .string) (hce : P.cellsOf e = 2) (hcs : P.cellsOf es = 1)
    (hsz : (DataW.weightsEach P ts ds).all (· ≤ reachBytes) = true) (htj : ts[j]? = some t) (hdj : ds[j]? = some d)
    (h : DataW.Trod enc P W base spare held t (.slice a len cap) d ps) :
    ∃ zs : List S84, Kd.C k84 W a zs.length zs ∧ zs.length = len ∧ len ≤ cap ∧ len * P.bytesOf e ≤ reachBytes ∧ ∀ x ∈ zs, x.f0.size ≤ reachBytes ∧ x.f1.size ≤ reachBytes := by
  obtain ⟨fuel, hf⟩ := h
  rcases open_slice ht hf with ⟨hc, hx⟩ | ⟨x, l, c, m, n, D, Pl, hc, _, hl, hm, hmm, hx, hel⟩
  · simp [Value.cells] at hc
    obtain ⟨rfl, rfl, rfl⟩ := hc
    exact ⟨[], Kd.C_nil _ _, rfl, Nat.le_refl _, by simp, by simp⟩
  · simp [Value.cells] at hc
    obtain ⟨rfl, rfl, rfl⟩ := hc
    simp only [Prod.mk.injEq] at hx
    obtain ⟨hd, _⟩ := hx
    subst hd
    have hlm : len ≤ m := by rw [hmm]; split <;> omega
    have each : ∀ i, i < len → ∃ q : ByteArray × ByteArray, W.cell? (x.add (i * 2)) = some (.string q.1) ∧ W.cell? (x.add (i * 2 + 1)) = some (.string q.2) ∧ D i = .agg [.lit (.string q.1.data.toList), .lit (.string q.2.data.toList)] := by
      intro i hi
      obtain ⟨cs', h1, h2⟩ := hel i (by omega)
      rw [hce] at h1
      obtain ⟨_, hlen, hcell⟩ := World.cells?_some h1
      obtain ⟨xs, k, _, hxy, _, hxl, hfx⟩ := DataW.trod_array he h2
      match xs, hxl, cs', hlen with
      | [y0, y1], _, [v0, v1], _ =>
        have g0 := hfx 0 (by omega)
        have g1 := hfx 1 (by omega)
        rw [hcs] at g0 g1
        simp at g0 g1
        obtain ⟨s0, e0, hy0, _⟩ := DataW.trod_string hes g0
        obtain ⟨s1, e1, hy1, _⟩ := DataW.trod_string hes g1
        have c0 := hcell 0 (by omega)
        have c1 := hcell 1 (by omega)
        rw [Deep.add_add] at c0 c1
        simp only [List.cons.injEq, and_true] at e0 e1
        subst e0
        subst e1
        simp only [Prod.mk.injEq] at hxy
        exact ⟨(s0, s1), by simpa using c0, by simpa using c1, by rw [hxy.1, hy0, hy1]; rfl⟩
    obtain ⟨q, hq⟩ := choose_lt each
    have hmax : len ≤ 9223372036854775807 := by simp only [maxLen] at hm; omega
    refine ⟨(List.range len).map fun i => ⟨(q i).1, (q i).2⟩, ⟨rfl, by simp; exact hmax, fun _ => ⟨x, rfl, ?_⟩⟩, by simp, hl, ?_, ?_⟩
    · intro k p hk
      rw [List.getElem?_map] at hk
      obtain ⟨i, hi, rfl⟩ := Option.map_eq_some_iff.1 hk
      obtain ⟨hlt, hi2⟩ := List.getElem?_eq_some_iff.1 hi
      rw [List.getElem_range] at hi2
      subst hi2
      rw [List.length_range] at hlt
      refine ⟨[.string (q k).1, .string (q k).2], rfl, k84_mk _ _, fun o u ho => ?_⟩
      match o, ho with
      | 0, ho => simp at ho; subst ho; exact (hq k hlt).1
      | 1, ho => simp at ho; subst ho; exact (hq k hlt).2.1
    · have z := sized_slice hsz htj hdj ht
      rw [List.length_map, List.length_range] at z
      exact Nat.le_trans (Nat.mul_le_mul_right _ (Nat.le_add_right _ _)) z
    · intro y hy
      obtain ⟨i, hi, rfl⟩ := List.mem_map.1 hy
      have hlt := List.mem_range.1 hi
      have key : ∀ w ∈ (D i).weights P e, w ≤ reachBytes := fun w hw => by
        have hmem : w ∈ (DataW.slice ((List.range len).map D) ((List.range (m - len)).map fun j => D (len + j))).weights P t := by
          simp only [DataW.weights, ht]
          refine List.mem_cons_of_mem _ (List.mem_append.2 (.inl (weights_all_mem (List.mem_map.2 ⟨i, hi, rfl⟩) w hw)))
        have := List.all_eq_true.1 hsz _ (DataW.weights_mem_each htj hdj w hmem)
        simpa using this
      rw [(hq i hlt).2.2] at key
      simp only [DataW.weights, he, DataW.weightsAll, List.append_nil] at key
      exact ⟨by have h := key _ (List.mem_append.2 (.inl (List.mem_singleton.2 rfl))); rw [Array.length_toList] at h; exact h, by have h := key _ (List.mem_append.2 (.inr (List.mem_singleton.2 rfl))); rw [Array.length_toList] at h; exact h⟩
end Go.Proofs.YtallfkecjibpmaaDoor.G
