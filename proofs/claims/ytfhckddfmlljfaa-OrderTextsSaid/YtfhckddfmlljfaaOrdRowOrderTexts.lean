/- A parameter of type []order.Order, opened. -/
import Derived.Test.YtfhckddfmlljfaaQOrderTextsx0
import Derived.Deep.Slices
import Derived.Lib.SmallJoins
namespace Go.Proofs.Ytfhckddfmlljfaa.QOrderTexts
open Go.Proofs.Ytfhckddfmlljfaa Go.RowKit Go.Proofs.YtfhckddfmlljfaaW.PrintWords Go.Proofs.YtfhckddfmlljfaaW.PrintLast Go.Deep Go.Joins
set_option linter.unusedVariables false
instance : Inhabited S44 := ⟨z44⟩
theorem list4 : ∀ cs : List Value, cs.length = 4 → ∃ c0 c1 c2 c3, cs = [c0, c1, c2, c3]
  | [a, b, c, d], _ => ⟨a, b, c, d, rfl⟩
section
variable {H : Type} {enc : TypeId × Value → H} {w : World} {base : Nat} {spare : Nat → Bool} {held : Bool}
theorem cells44 : Try.prog.cellsOf 44 = 4 := by kernel_rfl
theorem open_order {fuel : Nat} {cs : List Value} {x : DataW H × List MemPlace} (h : DataW.trod enc Try.prog w base spare held fuel 44 cs = some x) :
    ∃ y : S44, cs = [.int .i64 y.f0, .int .i64 y.f1, .int .i64 y.f2, .int .i64 y.f3] := by
  have hs := Try.underlying44
  obtain ⟨y0, y1, y2, y3, n, _, hl, h0, h1, h2, h3⟩ := trod_struct4 hs h
  rw [cells44] at hl
  obtain ⟨c0, c1, c2, c3, rfl⟩ := list4 cs hl
  have e3 : Try.prog.cellsOf 3 = 1 := by kernel_rfl
  have e2 : Try.prog.cellsOf 2 = 1 := by kernel_rfl
  simp only [e3, e2] at h0 h1 h2 h3
  obtain ⟨n0, k0, _⟩ := DataW.trod_int Try.underlying3 h0
  obtain ⟨n1, k1, _⟩ := DataW.trod_int Try.underlying2 h1
  obtain ⟨n2, k2, _⟩ := DataW.trod_int Try.underlying2 h2
  obtain ⟨n3, k3, _⟩ := DataW.trod_int Try.underlying2 h3
  simp at k0 k1 k2 k3
  exact ⟨⟨n0, n1, n2, n3⟩, by rw [k0, k1, k2, k3]⟩
theorem open_orders {t : TypeId} {fuel : Nat} {a : Option Addr} {len cap : Nat} {x : DataW H × List MemPlace} (ht : Try.prog.underlying t = some (.slice 44)) (h : DataW.trod enc Try.prog w base (fun _ => true) held fuel t [.slice a len cap] = some x) :
    ∃ l : List S44, l.length = len ∧ len ≤ cap ∧ Kd.C k44 w a len l := by
  rcases open_slice ht h with ⟨h0, _⟩ | ⟨ad, l0, c0, m, n, D, Pl, h0, _, hlc, hcm, hm, _, hx⟩
  · simp only [List.cons.injEq, Value.slice.injEq, and_true] at h0
    obtain ⟨rfl, rfl, rfl⟩ := h0
    exact ⟨[], rfl, Nat.le_refl _, rfl, by omega, fun h => absurd h (Nat.lt_irrefl _)⟩
  · simp only [List.cons.injEq, Value.slice.injEq, and_true] at h0
    obtain ⟨rfl, rfl, rfl⟩ := h0
    have hm' : len ≤ m := by rw [hm]; simpa using hlc
    have hex : ∀ i, i < len → ∃ y : S44, w.cells? base (ad.add (i * 4)) 4 = some [.int .i64 y.f0, .int .i64 y.f1, .int .i64 y.f2, .int .i64 y.f3] := by
      intro i hi
      obtain ⟨cs', h1, h2⟩ := hx i (by omega)
      rw [cells44] at h1
      obtain ⟨y, rfl⟩ := open_order h2
      exact ⟨y, h1⟩
    obtain ⟨Y, hY⟩ := choose_lt (α := S44) (p := fun i y => w.cells? base (ad.add (i * 4)) 4 = some [.int .i64 y.f0, .int .i64 y.f1, .int .i64 y.f2, .int .i64 y.f3]) hex
    refine ⟨(List.range len).map Y, by simp, hlc, by simp, by simp [maxLen] at hcm; omega, fun _ => ⟨ad, rfl, fun j p hj => ?_⟩⟩
    obtain ⟨hj1, rfl⟩ : j < len ∧ p = Y j := by
      have hl : j < ((List.range len).map Y).length := (List.getElem?_eq_some_iff.1 hj).1
      have hl' : j < len := by simpa using hl
      rw [List.getElem?_eq_getElem hl] at hj
      simp at hj
      exact ⟨hl', hj.symm⟩
    obtain ⟨_, _, hc⟩ := World.cells?_some (hY j hj1)
    refine ⟨_, rfl, k44_mk w (Y j), fun i u hu => ?_⟩
    have hi : i < 4 := by have := (List.getElem?_eq_some_iff.1 hu).1; simpa using this
    have := hc i hi
    rw [Deep.add_add] at this
    exact this.trans hu
end
end Go.Proofs.Ytfhckddfmlljfaa.QOrderTexts
