/- What the row's condition says of the table of TrailingZeros32. -/
import Derived.Test.YtgkhedmjkahclaaGreatDoorRows
import Derived.Test.YtgkhedmjkahclaaGreatDoorTz
import Derived.Test.YtgkhedmjkahclaaGreatDoorUDec
import Derived.WalkKit
import Derived.ProofKit
import Derived.OpenShut
import Derived.LaidMore
namespace Go.Proofs.YtgkhedmjkahclaaGreatDoor.TL
open Go Go.RowKit Go.Deep
set_option linter.unusedVariables false
set_option linter.unusedSimpArgs false

def dtab : List Int := [0, 1, 28, 2, 29, 14, 24, 3, 30, 22, 20, 15, 25, 17, 4, 8, 31, 27, 13, 23, 21, 19, 16, 7, 26, 12, 18, 6, 11, 5, 10, 9]
abbrev laidL : List (String × DataW Unit) := [("math/bits.deBruijn32tab", Rows.laid_math_bits_deBruijn32tab)]
theorem gTab : Tryz.prog.globalNamed "math/bits.deBruijn32tab" = some 0 := by kernel_rfl
theorem tTab : (Tryz.prog.globals[0]?).map (·.type) = some 205 := by kernel_rfl
theorem laid_eq {H : Type} : (Rows.laid_math_bits_deBruijn32tab : DataW H) = .agg (dtab.map fun n => .lit (.int .u8 n)) := rfl
theorem tab_of_laid {W : World} (h : laidMetH Tryz.prog laidL W) : ∀ g l, gvals g = some l → ∀ o v, l[o]? = some v → W.cell? ⟨g, o, none⟩ = some v := by
  intro g l hg o v hv
  rw [MakeChecks.laidMetH_plain _ _ _ (by kernel_rfl)] at h
  obtain ⟨ps, ⟨g0, t0, cs0, f0, p0, q0, hg0, ht0, hv0, hd0, _, _⟩, _, _⟩ := h
  obtain rfl := Option.some.inj (gTab.symm.trans hg0)
  obtain rfl := Option.some.inj (tTab.symm.trans ht0)
  match g, hg with
  | 0, hg =>
    have hl : l = dtab.map fun n => .int .u8 n := (Option.some.inj hg).symm
    subst hl
    rw [List.getElem?_map] at hv
    obtain ⟨n, hn, rfl⟩ := Option.map_eq_some_iff.1 hv
    have ho : o < 32 := by have := (List.getElem?_eq_some_iff.1 hn).1; simpa [dtab] using this
    obtain ⟨xs, m1, e1, hx1, hlen, hn3, hel⟩ := DataW.trod_array Tryz.underlying205 hd0
    have c1 : Tryz.prog.cellsOf 5 = 1 := by kernel_rfl
    have h0 := hel o ho
    rw [c1] at h0
    have hxo : o < xs.length := by omega
    rw [List.getElem?_eq_getElem hxo] at h0
    obtain ⟨k, e2, e3, _⟩ := DataW.trod_int Tryz.underlying5 h0
    have hx2 : dtab.map (fun n => DataW.lit (.int .u8 n)) = xs.map (·.1) := by
      have := congrArg Prod.fst hx1
      simpa [laid_eq] using this
    have h3 := congrArg (fun l => l[o]?) hx2
    simp only [List.getElem?_map, hn, Option.map_some, List.getElem?_eq_getElem hxo] at h3
    have hk : k = n := by
      have h4 := congrArg Prod.fst e3
      rw [Option.some.inj h3.symm] at h4
      simpa using h4.symm
    subst hk
    have := World.var?_cell hg0 hv0 o
    rw [this]
    have h5 := congrArg (fun l => l[0]?) e2
    simp at h5
    simpa using h5
  | g + 1, hg => cases hg
end Go.Proofs.YtgkhedmjkahclaaGreatDoor.TL
