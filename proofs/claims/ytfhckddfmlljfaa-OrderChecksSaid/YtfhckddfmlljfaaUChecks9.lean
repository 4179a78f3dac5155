/- The law OrderChecks, as the code runs. -/
import Derived.Test.YtfhckddfmlljfaaUOrdV
import Derived.Test.YtfhckddfmlljfaaUAwk9
import Derived.Test.YtfhckddfmlljfaaTg3
import Derived.Test.YtfhckddfmlljfaaTz
namespace Go.Proofs.Ytfhckddfmlljfaa.TL
open Go
set_option linter.unusedVariables false
set_option linter.unusedSimpArgs false

set_option maxHeartbeats 4000000 in
set_option maxRecDepth 100000 in
theorem OrderChecks_T (o : Ord) (l : List Act) (p : Int) : callT Try.prog 11 [.agg o.cells, .isl (rowA l) l.length, i64v p] ⟨[], []⟩ (fun r h => r = .v (.bool true)) := by
  refine callT_of_body [0, 1, 2, 3, 6, 7, 8, 9, 11, 21] [] Try.func11 rfl (by decide) (by kernel_rfl) rfl ?_
  have hcl : o.cells = [i64v o.k, i64v o.u, i64v o.a, i64v o.b] := rfl
  simp [hcl, i64v]
  intro v3
  refine callT_eq [] Awk9_T ?_
  simp
  refine callT_ex2 [(2, 12), (1001, 1001)] New1_T ?_
  simp [i64v]
  intro v u v8
  refine ⟨Nat × Tab × Nat, fun x => x.1 ≤ l.length ∧ x.1 ≤ 30 ∧ x.2.1.WF, fun x => ⟨[(1, .isl (rowA l) l.length), (2, i64v p), (3, .at 3 v3 0), (7, .at 12 v 0), (8, .at 8 v8 0), (9, .v (.int .i64 x.1))], [(3, v3, ⟨0, [i64v o.k, i64v o.u, i64v o.a, i64v o.b]⟩), (12, v, ⟨0, [.sl 1001 x.2.2 0 x.2.1.l.length, i64v x.2.1.next]⟩), (1001, x.2.2, ⟨6, rowU x.2.1.l⟩), (8, v8, ⟨0, [.isl (rowU x.2.1.l) x.2.1.l.length, i64v x.2.1.next]⟩)]⟩, fun x => l.length - x.1, ?_, ?_⟩
  · refine SLx.nilIsl 8 0 rfl rfl (SLx.fin _ ⟨(0, ⟨[], 1⟩, u), ⟨by simp, by simp, wf0⟩, rfl⟩ ?_ ?_)
    · simp [i64v]
    · simp [i64v]
  rintro ⟨k, t, u1⟩ ⟨hk, hk2, ht⟩
  simp only at hk hk2 ht ⊢
  by_cases h0 : k < l.length ∧ k < 30
  · obtain ⟨h1, h2⟩ := h0
    have h2' : (k : Int) < 30 := by omega
    have hat := rowA_at h1
    have hat2 : List.drop (k * 7) (rowA l) = .v (.int .i64 l[k].kind) :: .v (.int .i64 l[k].n) :: .v (.int .i64 l[k].field) :: .v (.int .i64 l[k].a) :: .v (.int .i64 l[k].b) :: .v (.int .i64 l[k].x) :: .v (.int .i64 l[k].y) :: rowA (l.drop (k + 1)) := hat
    simp [h1, h2', i64v]
    refine draw_g [0, 1, 2, 3, 4, 5, 6, 7, 8, 9, 10] 11 [(6, [0, 1, 2, 3, 4, 5]), (10, [0, 1, 2, 3, 4, 5, 6, 7, 8])] (by kernel_rfl) (by kernel_rfl) (by kernel_rfl) ?_
    simp [h1, hat, i64v]
    refine callT_ex [(1000, 12), (1001, 1001)] (Does_T v u1 t l[k] ht) ?_
    have e1 : IntKind.i64.wrap ((k : Int) + 1) = ((k + 1 : Nat) : Int) := by rw [i64_id (by omega) (by omega)]; rfl
    simp [i64v, Act.cells, h1, hat2]
    intro u2
    exact SLx.again (k + 1, t.does l[k], u2) ⟨by simp only; omega, by simp only; omega, ht.does l[k]⟩ (by simp only; omega) (by simp [i64v, e1]) (by simp [i64v])
  have ha1 : k < l.length → ¬ (k : Int) < 30 := fun h => by omega
  by_cases h1 : k < l.length
  · simp [h1, ha1 h1, i64v]
    refine draw_g [0, 2, 1, 3, 4, 5, 6, 7, 8, 10, 11, 12, 9] 13 [(1, [0]), (3, [0, 1, 2]), (9, [0, 1, 2, 3, 4, 5, 6, 7, 8])] (by kernel_rfl) (by kernel_rfl) (by kernel_rfl) ?_
    simp [i64v]
    refine callT_eq [] (Check_T o) ?_
    simp [hcl, i64v, i64c]
    refine callT_eq [] (CheckR_T o) ?_
    simp [hcl, i64v, i64c]
    refine callT_eq [(1000, 12), (1001, 1001)] (Valid_T v u1 o t p ht) ?_
    simp [hcl, i64v, i64c]
    refine callT_eq [] (ValidR_T o t p ht) ?_
    simp [hcl, i64v, i64c]
  · simp [h1, i64v]
    refine draw_g [0, 2, 1, 3, 4, 5, 6, 7, 8, 10, 11, 12, 9] 13 [(1, [0]), (3, [0, 1, 2]), (9, [0, 1, 2, 3, 4, 5, 6, 7, 8])] (by kernel_rfl) (by kernel_rfl) (by kernel_rfl) ?_
    simp [i64v]
    refine callT_eq [] (Check_T o) ?_
    simp [hcl, i64v, i64c]
    refine callT_eq [] (CheckR_T o) ?_
    simp [hcl, i64v, i64c]
    refine callT_eq [(1000, 12), (1001, 1001)] (Valid_T v u1 o t p ht) ?_
    simp [hcl, i64v, i64c]
    refine callT_eq [] (ValidR_T o t p ht) ?_
    simp [hcl, i64v, i64c]

def Ord.wf (o : Ord) : Prop := (Lit.int .i64 o.k).wf = true ∧ (Lit.int .i64 o.u).wf = true ∧ (Lit.int .i64 o.a).wf = true ∧ (Lit.int .i64 o.b).wf = true
theorem dec_ord {c : List TV} (h : ShV (.st [.int .i64, .int .i64, .int .i64, .int .i64]) c) : ∃ o : Ord, o.wf ∧ asT (.st [.int .i64, .int .i64, .int .i64, .int .i64]) c = .agg o.cells := by
  simp only [ShL, ShV] at h
  obtain ⟨_, _, rfl, ⟨n0, g0, rfl⟩, _, _, rfl, ⟨n1, g1, rfl⟩, _, _, rfl, ⟨n2, g2, rfl⟩, _, _, rfl, ⟨n3, g3, rfl⟩, rfl⟩ := h
  exact ⟨⟨n0, n1, n2, n3⟩, ⟨g0, g1, g2, g3⟩, rfl⟩
end Go.Proofs.Ytfhckddfmlljfaa.TL
