/- The law's Is. -/
import Derived.Test.YtfhckddfmlljfaaUDoes8
namespace Go.Proofs.Ytfhckddfmlljfaa.TL
open Go
set_option linter.unusedVariables false
set_option linter.unusedSimpArgs false

theorem Tab.unit_at {t : Tab} (ht : t.WF) {k : Nat} (hk : k < t.l.length) : t.unit t.l[k].id = (t.l[k], true) := by
  obtain ⟨h1, h2⟩ := pos_of k hk ht.asc rfl
  unfold Tab.unit
  rw [if_pos h2, h1]
  simp [hk]

set_option maxHeartbeats 2000000 in
set_option maxRecDepth 100000 in
theorem Is_T (v u : Nat) (t : Tab) (ht : t.WF) : callT Try.prog 28 [.at 1000 v 0, rTab t] ⟨[], tabH v u t⟩ (fun r h => r = i64v 0 ∧ h = tabH v u t) := by
  refine callT_of_body [0, 1, 3, 4, 5, 6, 7, 8, 9, 51, 53, 54, 55, 56, 89] [1000, 1001] Try.func28 rfl (by decide) (by kernel_rfl) rfl ?_
  have hlen := ht.len
  simp [i64v]
  intro v3
  refine callT_eq [(1000, 1000), (1001, 1001)] (All_T v u t ht.ok) ?_
  simp [i64v]
  refine draw_g [0, 2, 3, 4, 1, 5, 6, 7, 8, 9, 10, 11, 12, 13, 14, 15, 17, 18, 16, 19, 20, 21, 22, 24, 23, 25, 26, 27, 28, 29, 30, 31] 32 [(1, [0]), (16, [0, 1, 2, 3, 4, 5, 6, 7, 8, 9, 10, 11, 12, 13, 14, 15]), (23, [0, 1, 2, 3, 4, 5, 6, 7, 8, 9, 10, 11, 12, 13, 14, 15, 16, 17, 18, 19, 20, 21, 22]), (25, [0, 1, 2, 3, 4, 5, 6, 7, 8, 9, 10, 11, 12, 13, 14, 15, 16, 17, 18, 19, 20, 21, 22, 23, 24])] (by kernel_rfl) (by kernel_rfl) (by kernel_rfl) ?_
  simp
  refine callT_eq [(1000, 1000), (1001, 1001)] (Len_T v u t) ?_
  simp [i64v]
  refine callT_eq [(1000, 1000), (1001, 1001)] (Next_T v u t) ?_
  simp [i64v]
  refine callT_eq [(1000, 1000), (1001, 1001)] (Text8_T v u t ht) ?_
  simp [i64v]
  refine callT_eq [] (TextR8_T t ht) ?_
  simp [i64v]
  refine callT_eq [(1000, 1000), (1001, 1001)] (Nth_T v u t t.l.length) ?_
  have n1 : t.nth t.l.length = 0 := if_pos (by omega)
  have n2 : t.nth (-1) = 0 := if_pos (by omega)
  simp [i64v, n1]
  refine callT_eq [(1000, 1000), (1001, 1001)] (Nth_T v u t (-1)) ?_
  simp [i64v, n2]
  refine loopT_of (Nat × Nat) (fun x => x.1 ≤ t.l.length) (fun x => ⟨[(0, .at 1000 v 0), (3, .at 3 v3 0), (4, i64v 0), (5, .isl (rowU t.l) t.l.length), (53, .isl (rowU t.l) t.l.length), (54, .v (.int .i64 t.l.length)), (55, .v (.int .i64 x.1))], [(1000, v, ⟨0, [.sl 1001 u 0 t.l.length, i64v t.next]⟩), (1001, u, ⟨6, rowU t.l⟩), (3, v3, ⟨0, [.isl (rowU t.l) t.l.length, i64v t.next]⟩)]⟩) (fun x => t.l.length - x.1) (0, 0) (by simp) (by simp [i64v]) (by simp [i64v]) ?_
  rintro ⟨k, zz⟩ hk
  simp only at hk ⊢
  by_cases h1 : k < t.l.length
  · have hu := Tab.unit_at ht h1
    have hat := rowU_at h1
    have hnth : t.nth k = t.l[k].id := by
      unfold Tab.nth
      rw [if_neg (by omega)]
      simp [h1]
    simp [h1, hat, i64v]
    intro v7
    refine callT_eq [(1000, 1000), (1001, 1001)] (Unit_T v u t t.l[k].id ht.ok) ?_
    simp [i64v, hu, Un.cells]
    intro v8
    refine draw_g [0, 1, 2, 3, 4, 5, 6, 7, 8, 9, 10, 11, 12, 13, 14, 15, 16, 17, 19, 20, 18] 21 [(18, [0, 1, 2, 3, 4, 5, 6, 7, 8, 9, 10, 11, 12, 13, 14, 15, 16, 17])] (by kernel_rfl) (by kernel_rfl) (by kernel_rfl) ?_
    simp [h1, hat, i64v]
    refine callT_eq [(1000, 1000), (1001, 1001)] (Nth_T v u t k) ?_
    have e1 : IntKind.i64.wrap ((k : Int) + 1) = ((k + 1 : Nat) : Int) := by rw [i64_id (by omega) (by omega)]; rfl
    simp [i64v, hnth]
    refine SLx.again (k + 1, 0) (by simp only; omega) (by simp only; omega) (by simp [e1, i64v]) (by simp [i64v])
  · have : k = t.l.length := by omega
    subst this
    simp [i64v]
end Go.Proofs.Ytfhckddfmlljfaa.TL
