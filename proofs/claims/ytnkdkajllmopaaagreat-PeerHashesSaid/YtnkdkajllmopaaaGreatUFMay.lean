/- The laws of the fold: awake; which games may be. -/
import Derived.Test.YtnkdkajllmopaaaGreatUFold
namespace Go.Proofs.YtnkdkajllmopaaaGreat.TL
open Go
set_option linter.unusedVariables false
set_option linter.unusedSimpArgs false

mutual
theorem frzT_Clo (b ver : Nat) (B : Blk) : ∀ x : TV, Clo x → frzT b ver B x = x
  | .v _, _ => rfl
  | .any, _ => rfl
  | .isl _ _, _ => rfl
  | .iat _, _ => rfl
  | .fn _ _, _ => rfl
  | .at _ _ _, h => h.elim
  | .sl _ _ _ _, h => h.elim
  | .mp _ _, h => h.elim
  | .ifc t x, h => by simp only [frzT]; rw [frzT_Clo b ver B x h]
  | .opt g x, h => by simp only [frzT]; rw [frzT_Clo b ver B x h]
  | .agg l, h => by simp only [frzT]; rw [frzL_Clo b ver B l h]
  | .tup l, h => by simp only [frzT]; rw [frzL_Clo b ver B l h]
theorem frzL_Clo (b ver : Nat) (B : Blk) : ∀ l : List TV, CloL l → frzL b ver B l = l
  | [], _ => rfl
  | x :: l, h => by simp only [frzL]; rw [frzT_Clo b ver B x h.1, frzL_Clo b ver B l h.2]
end
@[simp] theorem frzL_rowU (b ver : Nat) (B : Blk) (l : List Un) : frzL b ver B (rowU l) = rowU l := frzL_Clo _ _ _ _ (rowU_CloL l)
@[simp] theorem frzL_i64v (b ver : Nat) (B : Blk) (l : List Int) : frzL b ver B (l.map i64v) = l.map i64v := frzL_Clo _ _ _ _ (i64s_CloL l)
def openF (ps : List Int) : Bool := decide ((Ros.mk (setOf ps) 0).len = ps.length) && (Ros.mk (setOf ps) 0).has 0
def rec22 : Rec := ⟨0, [], 0, 0, [⟨0, []⟩]⟩
theorem rec22_w (E : Env) (y : Value) (h : RV E (.agg [.v (.int .i64 0), .v (.slice none 0 0), .v (.int .i64 0), .v (.int .i64 0), .isl [.v (.int .i64 0), .v (.slice none 0 0)] 1]) y) : RV E (.agg rec22.cells) y := by
  simp only [rec22, Rec.cells, rowG, rowP, Ply.cells, rowC, i64c, List.map_nil, List.map_cons, List.flatten_nil, List.flatten_cons, List.append_nil, List.length_nil, List.length_cons, RV, RVl] at h ⊢
  obtain ⟨zs, h1, h2, ⟨a, ha, ha'⟩, ⟨b, hb, hb'⟩, ⟨c, hc, hc'⟩, ⟨d, hd, hd'⟩, ⟨e, he, he'⟩, -⟩ := h
  refine ⟨zs, h1, h2, ⟨a, ha, ha'⟩, ⟨b, hb, .inl ⟨trivial, trivial, hb'⟩⟩, ⟨c, hc, hc'⟩, ⟨d, hd, hd'⟩, ⟨e, he, ?_⟩, trivial⟩
  rcases he' with ⟨h0, -⟩ | ⟨a', cap, k1, k2, k3⟩
  · cases h0
  · refine .inr ⟨a', cap, k1, k2, ?_⟩
    rcases k3 with k3 | ⟨k3, ⟨f, k4, k5⟩, ⟨g, k6, k7⟩, -⟩
    · cases k3
    · exact .inr ⟨k3, ⟨f, k4, k5⟩, ⟨g, k6, .inl ⟨trivial, trivial, k7⟩⟩, trivial⟩

def fdA : Fd := (fd0 7 [0] 2 2).apply gameI rec22 |>.1
theorem fdA_facts : rec22.chk (fd0 7 [0] 2 2).W.turn (fd0 7 [0] 2 2).r = 0 ∧ (rec22.ros (fd0 7 [0] 2 2).r).1.s = 1 ∧ (rec22.ros (fd0 7 [0] 2 2).r).1.e = 0 := by decide

end Go.Proofs.YtnkdkajllmopaaaGreat.TL
