/- The law UnitPlays, as the code runs. -/
import Derived.Test.YtfhckddfmlljfaaUIs8
import Derived.Test.YtfhckddfmlljfaaTg3
namespace Go.Proofs.Ytfhckddfmlljfaa.TL
open Go
set_option linter.unusedVariables false
set_option linter.unusedSimpArgs false

set_option maxHeartbeats 4000000 in
set_option maxRecDepth 100000 in
theorem UnitPlays_T (l : List Act) : callT Try.prog 7 [.isl (rowA l) l.length] ⟨[], []⟩ (fun r h => r = .v (.bool true)) := by
  refine callT_of_body [0, 2, 3, 4, 5, 6, 7, 9, 11, 21, 64] [] Try.func7 rfl (by decide) (by kernel_rfl) rfl ?_
  simp
  refine callT_eq [] Awk8_T ?_
  simp
  refine callT_ex2 [(2, 12), (1001, 1001)] New1_T ?_
  simp [i64v]
  intro v u v4
  refine ⟨Nat × Tab × Nat × Nat × Nat, fun x => x.1 ≤ l.length ∧ x.1 ≤ 120 ∧ x.2.1.WF, fun x => ⟨[(0, .isl (rowA l) l.length), (3, .at 12 v 0), (4, .at 4 v4 0), (5, .v (.int .i64 x.1))], [(12, v, ⟨0, [.sl 1001 x.2.2.1 0 x.2.1.l.length, i64v x.2.1.next]⟩), (1001, x.2.2.1, ⟨6, rowU x.2.1.l⟩), (4, v4, ⟨0, [.isl (rowU x.2.1.l) x.2.1.l.length, i64v x.2.1.next]⟩)]⟩, fun x => l.length - x.1, ?_, ?_⟩
  · refine SLx.nilIsl 4 0 rfl rfl (SLx.fin _ ⟨(0, ⟨[], 1⟩, u, 0, 0), ⟨by simp, by simp, wf0⟩, rfl⟩ ?_ ?_)
    · simp
    · simp [i64v]
  rintro ⟨k, t, u1, z1, z2⟩ ⟨hk, hk2, ht⟩
  simp only at hk hk2 ht ⊢
  by_cases h1 : k < l.length
  · by_cases h2 : k < 120
    · have h2' : (k : Int) < 120 := by omega
      have hat := rowA_at h1
      simp [h1, h2', i64v]
      refine drawT_cut (α := Nat × Nat) (fun _ => True) (fun x => ⟨[(0, .isl (rowA l) l.length), (3, .at 12 v 0), (4, .at 4 v4 0), (5, .v (.int .i64 k)), (6, .at 6 x.2 0), (7, .v (.bool true))], [(12, v, ⟨0, [.sl 1001 x.1 0 (t.does l[k]).l.length, i64v (t.does l[k]).next]⟩), (1001, x.1, ⟨6, rowU (t.does l[k]).l⟩), (4, v4, ⟨0, [.isl (rowU t.l) t.l.length, i64v t.next]⟩), (6, x.2, ⟨0, [.isl (rowU (t.does l[k]).l) (t.does l[k]).l.length, i64v (t.does l[k]).next]⟩)]⟩) ?_ ?_
      · refine draw_h (pl [0, 1, 2, 3, 4, 5] (.alt 6 (pl [7, 8, 9, 10, 11] .nil) 10 (pl [6, 7, 8, 9, 11] .nil))) 12 [(6, [0, 1, 2, 3, 4, 5]), (10, []), (11, [0, 1, 2, 3, 4, 5, 6, 7, 8, 10])] (by kernel_rfl) (by kernel_rfl) (by kernel_rfl) (by kernel_rfl) ?_
        simp [h1, hat, i64v]
        have hat2 : List.drop (k * 7) (rowA l) = .v (.int .i64 l[k].kind) :: .v (.int .i64 l[k].n) :: .v (.int .i64 l[k].field) :: .v (.int .i64 l[k].a) :: .v (.int .i64 l[k].b) :: .v (.int .i64 l[k].x) :: .v (.int .i64 l[k].y) :: rowA (l.drop (k + 1)) := hat
        refine ⟨?_, fun v6 => ?_⟩
        · refine callT_ex [(1000, 12), (1001, 1001)] (Does_T v u1 t l[k] ht) ?_
          simp [i64v, Act.cells, h1, hat2]
          intro u2 v6
          exact SLx.at (u2, v6) trivial (by simp [i64v]) (by simp [i64v])
        · refine callT_ex [(1000, 12), (1001, 1001)] (Does_T v u1 t l[k] ht) ?_
          simp [i64v, Act.cells, h1, hat2]
          intro u2
          exact SLx.at (u2, v6) trivial (by simp [i64v]) (by simp [i64v])
      · rintro ⟨u2, v6⟩ -
        have htd := ht.does l[k]
        generalize hT : t.does l[k] = T at htd
        simp [h1, hat, i64v]
        refine callT_eq [(1000, 12), (1001, 1001)] (Unit_T v u2 T l[k].x htd.ok) ?_
        simp [i64v, Un.cells]
        intro v8
        refine draw_g [0, 1, 2, 3, 4, 5, 6, 7, 8, 9, 10, 11, 12, 13, 14, 15, 16, 17] 18 [(5, [0, 1, 2, 3, 4]), (16, [0, 1, 2, 3, 4, 5, 6, 7, 8, 10, 11, 12, 13, 14, 15])] (by kernel_rfl) (by kernel_rfl) (by kernel_rfl) ?_
        simp [h1, hat, i64v]
        refine callT_eq [(1000, 12), (1001, 1001)] (Is_T v u2 T htd) ?_
        simp [h1, hat, i64v]
        refine callT_eq [] (FindR_T T l[k].x htd.ok.len) ?_
        have hf := findR_eq (id := l[k].x) htd.asc
        have hnone : (T.unit l[k].x).2 = found T.l l[k].x := by
          unfold Tab.unit
          split
          · rename_i hh; exact hh.symm
          · rename_i hh; simpa using hh
        have hfd : decide (0 ≤ findR T.l l[k].x) = found T.l l[k].x := by
          rw [hf]
          cases found T.l l[k].x <;> simp
        have e1 : IntKind.i64.wrap ((k : Int) + 1) = ((k + 1 : Nat) : Int) := by rw [i64_id (by omega) (by omega)]; rfl
        simp [h1, hat, i64v, hnone, hfd]
        exact SLx.again (k + 1, T, u2, 0, 0) ⟨by simp only; omega, by simp only; omega, htd⟩ (by simp only; omega) (by simp [i64v, e1]) (by simp [i64v])
    · have h2' : ¬ (k : Int) < 120 := by omega
      simp [h1, h2', i64v]
  · simp [h1, i64v]
end Go.Proofs.Ytfhckddfmlljfaa.TL
