/- A parameter of type []order.Order, opened. -/
import Derived.Test.YtfhckddfmlljfaaTw
import Derived.Test.YtfhckddfmlljfaaUPut
import Derived.Deep.Slices
import Derived.Lib.SmallJoins
namespace Go.Proofs.Ytfhckddfmlljfaa.TL
open Go Go.RowKit Go.Deep Go.Joins
set_option linter.unusedVariables false
instance : Inhabited Ord := ⟨⟨0, 0, 0, 0⟩⟩
theorem list4 : ∀ cs : List Value, cs.length = 4 → ∃ c0 c1 c2 c3, cs = [c0, c1, c2, c3]
  | [a, b, c, d], _ => ⟨a, b, c, d, rfl⟩
theorem wf_i64 {n : Int} (h : (Lit.int .i64 n).wf = true) : i64ok n := by
  simp only [Lit.wf, Bool.and_eq_true, decide_eq_true_eq] at h
  have h1 : IntKind.min .i64 = -9223372036854775808 := by decide
  have h2 : IntKind.max .i64 = 9223372036854775807 := by decide
  rw [h1, h2] at h
  exact h
section
variable {H : Type} {enc : TypeId × Value → H} {w : World} {base : Nat} {spare : Nat → Bool} {held : Bool}
theorem cells44 : Try.prog.cellsOf 44 = 4 := by kernel_rfl
theorem open_order {fuel : Nat} {cs : List Value} {x : DataW H × List MemPlace} (h : DataW.trod enc Try.prog w base spare held fuel 44 cs = some x) :
    ∃ y : Ord, y.ok ∧ cs = [.int .i64 y.k, .int .i64 y.u, .int .i64 y.a, .int .i64 y.b] := by
  have hs := Try.underlying44
  obtain ⟨y0, y1, y2, y3, n, _, hl, h0, h1, h2, h3⟩ := trod_struct4 hs h
  rw [cells44] at hl
  obtain ⟨c0, c1, c2, c3, rfl⟩ := list4 cs hl
  have e3 : Try.prog.cellsOf 3 = 1 := by kernel_rfl
  have e2 : Try.prog.cellsOf 2 = 1 := by kernel_rfl
  simp only [e3, e2] at h0 h1 h2 h3
  obtain ⟨n0, k0, _, w0⟩ := DataW.trod_int Try.underlying3 h0
  obtain ⟨n1, k1, _, w1⟩ := DataW.trod_int Try.underlying2 h1
  obtain ⟨n2, k2, _, w2⟩ := DataW.trod_int Try.underlying2 h2
  obtain ⟨n3, k3, _, w3⟩ := DataW.trod_int Try.underlying2 h3
  simp at k0 k1 k2 k3
  exact ⟨⟨n0, n1, n2, n3⟩, ⟨wf_i64 w0, wf_i64 w1, wf_i64 w2, wf_i64 w3⟩, by rw [k0, k1, k2, k3]⟩
theorem rowC_get {l : List Ord} {i j : Nat} (hi : i < l.length) (hj : j < 4) : (rowC l)[i * 4 + j]? = (l[i].cells)[j]? := by
  have := congrArg (fun c => c[j]?) (rowC_drop i l)
  simp only [List.getElem?_drop] at this
  rw [this, List.drop_eq_getElem_cons hi, rowC_cons, List.getElem?_append_left (by simpa [Ord.cells] using hj)]
theorem open_orders {t : TypeId} {fuel : Nat} {a : Option Addr} {len cap : Nat} {x : DataW H × List MemPlace} (ht : Try.prog.underlying t = some (.slice 44)) (h : DataW.trod enc Try.prog w base (fun _ => true) held fuel t [.slice a len cap] = some x) :
    ∃ l : List Ord, l.length = len ∧ (∀ o ∈ l, o.ok) ∧ len ≤ maxLen ∧ RV (Env.start w) (.isl (rowC l) l.length) (.slice a len cap) := by
  rcases open_slice ht h with ⟨h0, _⟩ | ⟨ad, l0, c0, m, n, D, Pl, h0, _, hlc, hcm, hm, _, hx⟩
  · simp only [List.cons.injEq, Value.slice.injEq, and_true] at h0
    obtain ⟨rfl, rfl, rfl⟩ := h0
    exact ⟨[], rfl, fun o ho => (by cases ho), Nat.zero_le _, RV_slice (Nat.le_refl _) (.inl ⟨rfl, rfl, rfl, rfl⟩)⟩
  · simp only [List.cons.injEq, Value.slice.injEq, and_true] at h0
    obtain ⟨rfl, rfl, rfl⟩ := h0
    have hm' : len ≤ m := by rw [hm]; simpa using hlc
    have hex : ∀ i, i < len → ∃ y : Ord, y.ok ∧ w.cells? base (ad.add (i * 4)) 4 = some [.int .i64 y.k, .int .i64 y.u, .int .i64 y.a, .int .i64 y.b] := by
      intro i hi
      obtain ⟨cs', h1, h2⟩ := hx i (by omega)
      rw [cells44] at h1
      obtain ⟨y, hy, rfl⟩ := open_order h2
      exact ⟨y, hy, h1⟩
    obtain ⟨Y, hY⟩ := choose_lt (α := Ord) (p := fun i y => y.ok ∧ w.cells? base (ad.add (i * 4)) 4 = some [.int .i64 y.k, .int .i64 y.u, .int .i64 y.a, .int .i64 y.b]) hex
    have hll : ((List.range len).map Y).length = len := by simp
    refine ⟨(List.range len).map Y, hll, fun o ho => ?_, by omega, ?_⟩
    · obtain ⟨i, hi, rfl⟩ := List.mem_map.1 ho
      exact (hY i (by simpa using hi)).1
    · rw [hll]
      refine RV_slice hlc (.inr ⟨ad, rfl, ?_⟩)
      by_cases h0 : len = 0
      · subst h0; exact .inl rfl
      · refine .inr ⟨?_, fun j x hj => ?_⟩
        · obtain ⟨_, _, hc⟩ := World.cells?_some (hY 0 (by omega)).2
          have := hc 0 (by omega)
          exact spot_none (a := ad) (by simpa [Addr.add] using this)
        · have hjl : j < len * 4 := by have := (List.getElem?_eq_some_iff.1 hj).1; simpa using this
          obtain ⟨i, r, hi, hr, rfl⟩ : ∃ i r, i < len ∧ r < 4 ∧ j = i * 4 + r := ⟨j / 4, j % 4, by omega, by omega, by omega⟩
          rw [rowC_get (by simpa using hi) hr] at hj
          obtain ⟨_, _, hc⟩ := World.cells?_some (hY i hi).2
          have h1 := hc r hr
          rw [Deep.add_add] at h1
          rw [h1]
          simp only [List.getElem_map, List.getElem_range, Ord.cells] at hj
          match r, hr with
          | 0, _ => simp at hj; subst hj; exact ⟨_, rfl, by simp only [RV, i64c]⟩
          | 1, _ => simp at hj; subst hj; exact ⟨_, rfl, by simp only [RV, i64c]⟩
          | 2, _ => simp at hj; subst hj; exact ⟨_, rfl, by simp only [RV, i64c]⟩
          | 3, _ => simp at hj; subst hj; exact ⟨_, rfl, by simp only [RV, i64c]⟩
end
end Go.Proofs.Ytfhckddfmlljfaa.TL
