/- The law UnitBack, as the code runs. -/
import Derived.Test.YtfhckddfmlljfaaUReads8
namespace Go.Proofs.Ytfhckddfmlljfaa.TL
open Go
set_option linter.unusedVariables false
set_option linter.unusedSimpArgs false

set_option maxHeartbeats 4000000 in
set_option maxRecDepth 100000 in
theorem UnitBack_T (l m : List Act) : callT Try.prog 10 [.isl (rowA l) l.length, .isl (rowA m) m.length] ⟨[], []⟩ (fun r h => r = .v (.bool true)) := by
  refine callT_of_body [0, 1, 4, 5, 6, 7, 8, 9, 10, 11, 12, 14, 24, 54, 62, 83] [] Try.func10 rfl (by decide) (by kernel_rfl) rfl ?_
  simp
  refine callT_eq [] Awk8_T ?_
  simp
  refine callT_ex2 [(2, 15), (1001, 1001)] New1_T ?_
  simp [i64v]
  intro v u v6
  refine ⟨Nat × Tab × Nat, fun x => x.1 ≤ l.length ∧ x.1 ≤ 80 ∧ x.2.1.WF, fun x => ⟨[(0, .isl (rowA l) l.length), (1, .isl (rowA m) m.length), (5, .at 15 v 0), (6, .at 6 v6 0), (7, .v (.int .i64 x.1))], [(15, v, ⟨0, [.sl 1001 x.2.2 0 x.2.1.l.length, i64v x.2.1.next]⟩), (1001, x.2.2, ⟨6, rowU x.2.1.l⟩), (6, v6, ⟨0, [.isl (rowU x.2.1.l) x.2.1.l.length, i64v x.2.1.next]⟩)]⟩, fun x => l.length - x.1, ?_, ?_⟩
  · refine SLx.nilIsl 6 0 rfl rfl (SLx.fin _ ⟨(0, ⟨[], 1⟩, u), ⟨by simp, by simp, wf0⟩, rfl⟩ ?_ ?_)
    · simp
    · simp [i64v]
  rintro ⟨k, t, u1⟩ ⟨hk, hk2, ht⟩
  simp only at hk hk2 ht ⊢
  by_cases h0 : k < l.length ∧ k < 80
  · obtain ⟨h1, h2⟩ := h0
    have h2' : (k : Int) < 80 := by omega
    have hat := rowA_at h1
    have hat2 : List.drop (k * 7) (rowA l) = .v (.int .i64 l[k].kind) :: .v (.int .i64 l[k].n) :: .v (.int .i64 l[k].field) :: .v (.int .i64 l[k].a) :: .v (.int .i64 l[k].b) :: .v (.int .i64 l[k].x) :: .v (.int .i64 l[k].y) :: rowA (l.drop (k + 1)) := hat
    simp [h1, h2', i64v]
    refine draw_g [0, 1, 2, 3, 4, 5, 6, 7, 8, 9, 10] 11 [(6, [0, 1, 2, 3, 4, 5]), (10, [0, 1, 2, 3, 4, 5, 6, 7, 8])] (by kernel_rfl) (by kernel_rfl) (by kernel_rfl) ?_
    simp [h1, hat, i64v]
    refine callT_ex [(1000, 15), (1001, 1001)] (Does_T v u1 t l[k] ht) ?_
    have e1 : IntKind.i64.wrap ((k : Int) + 1) = ((k + 1 : Nat) : Int) := by rw [i64_id (by omega) (by omega)]; rfl
    simp [i64v, Act.cells, h1, hat2]
    intro u2
    exact SLx.again (k + 1, t.does l[k], u2) ⟨by simp only; omega, by simp only; omega, ht.does l[k]⟩ (by simp only; omega) (by simp [i64v, e1]) (by simp [i64v])
  have hnb := In.tab_nb ht []
  rw [List.append_nil] at hnb
  have ha1 : k < l.length → ¬ (k : Int) < 80 := fun h => by omega
  by_cases h1 : k < l.length
  · simp [h1, ha1 h1, i64v]
    refine callT_eq [(1000, 15), (1001, 1001)] (Text8_T v u1 t ht) ?_
    simp [i64v]
    refine callT_ex [(5, 39)] (Open_T (tabB t)) ?_
    simp [i64v]
    intro v39
    refine callT_ex2 [(1000, 39), (11, 41), (1001, 1002)] (Read8_yes (v := v39) (i := ⟨tabB t, 0⟩) (by rw [hnb])) ?_
    simp [hnb, i64v]
    intro vt u3
    refine callT_eq [(1000, 39)] (End_T v39 ⟨[], 0⟩) ?_
    simp [In.fin]
    refine callT_eq [(1000, 41), (1001, 1002)] (Is_T vt u3 t ht) ?_
    simp [i64v]
    refine loopT_of (Nat × Tab × Nat × Nat × Nat) (fun x => x.1 ≤ m.length ∧ x.1 ≤ 40 ∧ x.2.1.WF) (fun x => ⟨[(1, .isl (rowA m) m.length), (6, .at 6 v6 0), (9, .at 41 vt 0), (10, .v (.int .i64 x.1))], [(41, vt, ⟨0, [.sl 1002 x.2.2.1 0 x.2.1.l.length, i64v x.2.1.next]⟩), (1002, x.2.2.1, ⟨6, rowU x.2.1.l⟩), (6, v6, ⟨0, [.isl (rowU x.2.1.l) x.2.1.l.length, i64v x.2.1.next]⟩)]⟩) (fun x => m.length - x.1) (0, t, u3, 0, 0) ⟨by simp, by simp, ht⟩ (by simp) (by simp [i64v]) ?_
    rintro ⟨j, t2, u4, z1, z2⟩ ⟨hj, hj2, ht2⟩
    simp only at hj hj2 ht2 ⊢
    by_cases g1 : j < m.length
    · by_cases g2 : j < 40
      · have g2' : (j : Int) < 40 := by omega
        have hat := rowA_at g1
        have hat2 : List.drop (j * 7) (rowA m) = .v (.int .i64 m[j].kind) :: .v (.int .i64 m[j].n) :: .v (.int .i64 m[j].field) :: .v (.int .i64 m[j].a) :: .v (.int .i64 m[j].b) :: .v (.int .i64 m[j].x) :: .v (.int .i64 m[j].y) :: rowA (m.drop (j + 1)) := hat
        simp [g1, g2', i64v]
        refine drawT_cut (α := Nat × Nat) (fun _ => True) (fun x => ⟨[(1, .isl (rowA m) m.length), (9, .at 41 vt 0), (6, .at 6 v6 0), (10, .v (.int .i64 j)), (11, .at 11 x.2 0), (12, .v (.bool true))], [(41, vt, ⟨0, [.sl 1002 x.1 0 (t2.does m[j]).l.length, i64v (t2.does m[j]).next]⟩), (1002, x.1, ⟨6, rowU (t2.does m[j]).l⟩), (6, v6, ⟨0, [.isl (rowU t2.l) t2.l.length, i64v t2.next]⟩), (11, x.2, ⟨0, [.isl (rowU (t2.does m[j]).l) (t2.does m[j]).l.length, i64v (t2.does m[j]).next]⟩)]⟩) ?_ ?_
        · refine draw_h (pl [0, 1, 2, 3, 4, 5] (.alt 6 (pl [7, 8, 9, 10, 11] .nil) 10 (pl [6, 7, 8, 9, 11] .nil))) 12 [(6, [0, 1, 2, 3, 4, 5]), (10, []), (11, [0, 1, 2, 3, 4, 5, 6, 7, 8, 10])] (by kernel_rfl) (by kernel_rfl) (by kernel_rfl) (by kernel_rfl) ?_
          simp [g1, hat, i64v]
          refine ⟨?_, fun v11 => ?_⟩
          · refine callT_ex [(1000, 41), (1001, 1002)] (Does_T vt u4 t2 m[j] ht2) ?_
            simp [i64v, Act.cells, g1, hat2]
            intro u5 v11
            exact SLx.at (u5, v11) trivial (by simp [i64v]) (by simp [i64v])
          · refine callT_ex [(1000, 41), (1001, 1002)] (Does_T vt u4 t2 m[j] ht2) ?_
            simp [i64v, Act.cells, g1, hat2]
            intro u5
            exact SLx.at (u5, v11) trivial (by simp [i64v]) (by simp [i64v])
        · rintro ⟨u5, v11⟩ -
          have htd := ht2.does m[j]
          generalize hT : t2.does m[j] = T at htd
          have e1 : IntKind.i64.wrap ((j : Int) + 1) = ((j + 1 : Nat) : Int) := by rw [i64_id (by omega) (by omega)]; rfl
          simp [i64v]
          refine callT_eq [(1000, 41), (1001, 1002)] (Is_T vt u5 T htd) ?_
          simp [i64v]
          exact SLx.again (j + 1, T, u5, 0, 0) ⟨by simp only; omega, by simp only; omega, htd⟩ (by simp only; omega) (by simp [i64v, e1]) (by simp [i64v])
      · have g2' : ¬ (j : Int) < 40 := by omega
        simp [g1, g2', i64v]
    · simp [g1, i64v]
  · simp [h1, i64v]
    refine callT_eq [(1000, 15), (1001, 1001)] (Text8_T v u1 t ht) ?_
    simp [i64v]
    refine callT_ex [(5, 39)] (Open_T (tabB t)) ?_
    simp [i64v]
    intro v39
    refine callT_ex2 [(1000, 39), (11, 41), (1001, 1002)] (Read8_yes (v := v39) (i := ⟨tabB t, 0⟩) (by rw [hnb])) ?_
    simp [hnb, i64v]
    intro vt u3
    refine callT_eq [(1000, 39)] (End_T v39 ⟨[], 0⟩) ?_
    simp [In.fin]
    refine callT_eq [(1000, 41), (1001, 1002)] (Is_T vt u3 t ht) ?_
    simp [i64v]
    refine loopT_of (Nat × Tab × Nat × Nat × Nat) (fun x => x.1 ≤ m.length ∧ x.1 ≤ 40 ∧ x.2.1.WF) (fun x => ⟨[(1, .isl (rowA m) m.length), (6, .at 6 v6 0), (9, .at 41 vt 0), (10, .v (.int .i64 x.1))], [(41, vt, ⟨0, [.sl 1002 x.2.2.1 0 x.2.1.l.length, i64v x.2.1.next]⟩), (1002, x.2.2.1, ⟨6, rowU x.2.1.l⟩), (6, v6, ⟨0, [.isl (rowU x.2.1.l) x.2.1.l.length, i64v x.2.1.next]⟩)]⟩) (fun x => m.length - x.1) (0, t, u3, 0, 0) ⟨by simp, by simp, ht⟩ (by simp) (by simp [i64v]) ?_
    rintro ⟨j, t2, u4, z1, z2⟩ ⟨hj, hj2, ht2⟩
    simp only at hj hj2 ht2 ⊢
    by_cases g1 : j < m.length
    · by_cases g2 : j < 40
      · have g2' : (j : Int) < 40 := by omega
        have hat := rowA_at g1
        have hat2 : List.drop (j * 7) (rowA m) = .v (.int .i64 m[j].kind) :: .v (.int .i64 m[j].n) :: .v (.int .i64 m[j].field) :: .v (.int .i64 m[j].a) :: .v (.int .i64 m[j].b) :: .v (.int .i64 m[j].x) :: .v (.int .i64 m[j].y) :: rowA (m.drop (j + 1)) := hat
        simp [g1, g2', i64v]
        refine drawT_cut (α := Nat × Nat) (fun _ => True) (fun x => ⟨[(1, .isl (rowA m) m.length), (9, .at 41 vt 0), (6, .at 6 v6 0), (10, .v (.int .i64 j)), (11, .at 11 x.2 0), (12, .v (.bool true))], [(41, vt, ⟨0, [.sl 1002 x.1 0 (t2.does m[j]).l.length, i64v (t2.does m[j]).next]⟩), (1002, x.1, ⟨6, rowU (t2.does m[j]).l⟩), (6, v6, ⟨0, [.isl (rowU t2.l) t2.l.length, i64v t2.next]⟩), (11, x.2, ⟨0, [.isl (rowU (t2.does m[j]).l) (t2.does m[j]).l.length, i64v (t2.does m[j]).next]⟩)]⟩) ?_ ?_
        · refine draw_h (pl [0, 1, 2, 3, 4, 5] (.alt 6 (pl [7, 8, 9, 10, 11] .nil) 10 (pl [6, 7, 8, 9, 11] .nil))) 12 [(6, [0, 1, 2, 3, 4, 5]), (10, []), (11, [0, 1, 2, 3, 4, 5, 6, 7, 8, 10])] (by kernel_rfl) (by kernel_rfl) (by kernel_rfl) (by kernel_rfl) ?_
          simp [g1, hat, i64v]
          refine ⟨?_, fun v11 => ?_⟩
          · refine callT_ex [(1000, 41), (1001, 1002)] (Does_T vt u4 t2 m[j] ht2) ?_
            simp [i64v, Act.cells, g1, hat2]
            intro u5 v11
            exact SLx.at (u5, v11) trivial (by simp [i64v]) (by simp [i64v])
          · refine callT_ex [(1000, 41), (1001, 1002)] (Does_T vt u4 t2 m[j] ht2) ?_
            simp [i64v, Act.cells, g1, hat2]
            intro u5
            exact SLx.at (u5, v11) trivial (by simp [i64v]) (by simp [i64v])
        · rintro ⟨u5, v11⟩ -
          have htd := ht2.does m[j]
          generalize hT : t2.does m[j] = T at htd
          have e1 : IntKind.i64.wrap ((j : Int) + 1) = ((j + 1 : Nat) : Int) := by rw [i64_id (by omega) (by omega)]; rfl
          simp [i64v]
          refine callT_eq [(1000, 41), (1001, 1002)] (Is_T vt u5 T htd) ?_
          simp [i64v]
          exact SLx.again (j + 1, T, u5, 0, 0) ⟨by simp only; omega, by simp only; omega, htd⟩ (by simp only; omega) (by simp [i64v, e1]) (by simp [i64v])
      · have g2' : ¬ (j : Int) < 40 := by omega
        simp [g1, g2', i64v]
    · simp [g1, i64v]
end Go.Proofs.Ytfhckddfmlljfaa.TL
