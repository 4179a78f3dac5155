/- Records: as a text, of a text. -/
import Derived.Test.YtkggjmoghpmelaaURecP
namespace Go.Proofs.Ytkggjmoghpmelaa.TL
open Go
set_option linter.unusedVariables false
set_option linter.unusedSimpArgs false

theorem VLx.nilTR {h : Heap} {S : TV → Heap → Prop} {a c d z : TV} (k : VLx (.tup [.agg [a, .isl [] 0, c, d, .isl [] 0], z]) h S) : VLx (.tup [.agg [a, .v (.slice none 0 0), c, d, .v (.slice none 0 0)], z]) h S := fun e E w v H hv => by
  refine k e E w v H ?_
  simp only [RV, RVl] at hv ⊢
  obtain ⟨zs, e1, e2, ⟨x0, x1, cs, h1, h2, ⟨y0, g0, k0⟩, ⟨y1, g1, k1⟩, ⟨y2, g2, k2⟩, ⟨y3, g3, k3⟩, ⟨y4, g4, k4⟩, h3⟩, e3⟩ := hv
  exact ⟨zs, e1, e2, ⟨x0, x1, cs, h1, h2, ⟨y0, g0, k0⟩, ⟨y1, g1, .inl ⟨trivial, trivial, k1⟩⟩, ⟨y2, g2, k2⟩, ⟨y3, g3, k3⟩, ⟨y4, g4, .inl ⟨trivial, trivial, k4⟩⟩, h3⟩, e3⟩

abbrev rec0 : Rec := ⟨0, [], 0, 0, []⟩
def rcParse (l : List UInt8) : Rec × Int :=
  let p := (In.mk l 0).rcd
  if p.1.fin.e ≠ 0 then (rec0, p.1.fin.e) else (p.2, 0)
end Go.Proofs.Ytkggjmoghpmelaa.TL
