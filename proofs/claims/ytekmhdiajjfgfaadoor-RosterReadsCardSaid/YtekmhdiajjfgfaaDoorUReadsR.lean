/- The law RosterReads, as the code runs. -/
import Derived.Test.YtekmhdiajjfgfaaDoorURosX
import Derived.Test.YtekmhdiajjfgfaaDoorUCut
import Derived.Test.YtekmhdiajjfgfaaDoorURosJ
import Derived.Test.YtekmhdiajjfgfaaDoorURosK
namespace Go.Proofs.YtekmhdiajjfgfaaDoor.TL
open Go
set_option linter.unusedVariables false
set_option linter.unusedSimpArgs false

theorem In.vot_len : ∀ (n : Nat) (i : In) (l : List Int), (In.vot n i l).2.length ≤ l.length + n
  | 0, i, l => Nat.le_refl _
  | n + 1, i, l => by
    unfold In.vot
    split
    · simp
    · have := In.vot_len n (i.count 31).1 (l ++ [(i.count 31).2])
      simp at this
      omega
theorem In.chg_len (i : In) : i.chg.2.v.length ≤ 32 := by
  have hn := ((i.count 3).1.count 31).1.count_rng' 32 (by decide)
  have := In.vot_len (((i.count 3).1.count 31).1.count 32).2.toNat (((i.count 3).1.count 31).1.count 32).1 []
  unfold In.chg
  simp only
  split
  · simp
  · simp at this ⊢
    omega
theorem In.ros_lt (i : In) : i.ros.2.s < 2 ^ 32 := by
  have h1 := i.count_rng' 4294967295 (by decide)
  unfold In.ros
  simp only
  split
  · simp only; omega
  · simp only; omega

set_option maxHeartbeats 4000000 in
set_option maxRecDepth 100000 in
theorem RosterReads_T (l0 : List UInt8) : callT Tryd.prog 5 [.v (.string (bs l0))] ⟨[], []⟩ (fun r h => r = .v (.bool true)) := by
  refine callT_of_body [0, 2, 3, 4, 5, 6, 7, 8, 9, 10, 14, 59] [] Tryd.func5 rfl (by decide) (by kernel_rfl) rfl ?_
  simp
  refine callT_eq [] (Cut_T l0 60 (by decide)) ?_
  simp
  have hlen : (List.take 60 l0).length ≤ 60 := by simp; omega
  generalize List.take 60 l0 = l at hlen ⊢
  refine callT_eq [] Awk18_T ?_
  simp
  refine callT_ex [(5, 16)] (Open_T l) ?_
  simp
  intro v
  refine callT_eq [(1000, 16)] (RdChg_T v ⟨l, 0⟩) ?_
  have hcl := In.chg_len ⟨l, 0⟩
  have hr := RdChgR_T ⟨l, 0⟩
  generalize In.chg ⟨l, 0⟩ = q at hcl hr ⊢
  obtain ⟨i2, c⟩ := q
  simp only at hcl hr
  simp [Chg.cells, i64c]
  intro v4
  refine callT_eq [] hr ?_
  simp [Chg.cells, i64c]
  intro v5 v6
  refine draw_g [0, 2, 3, 1, 4, 5, 6, 8, 9, 10, 7, 11, 12, 13, 14, 15, 16, 17, 18, 19, 20, 21, 22, 23, 24, 25, 26, 27, 28, 29, 30, 31] 32 [(1, [0]), (7, [0, 1, 2, 3, 4, 5, 6])] (by kernel_rfl) (by kernel_rfl) (by kernel_rfl) ?_
  simp [Chg.cells, i64c]
  refine callT_eq [(1000, 16)] (Err_T v i2) ?_
  simp [Chg.cells, i64c]
  refine callT_eq [(1000, 16)] (InLen_T v i2) ?_
  simp [Chg.cells, i64c]
  refine callT_eq [] (Same_T c.v c.v (by omega)) ?_
  simp [Chg.cells, i64c]
  refine callT_ex [(5, 61)] (Open_T l) ?_
  simp
  intro w
  refine callT_eq [(1000, 61)] (RRead_T w ⟨l, 0⟩) ?_
  have hrl := In.ros_lt ⟨l, 0⟩
  have hr2 := RdRosR_T ⟨l, 0⟩
  generalize In.ros ⟨l, 0⟩ = q2 at hrl hr2 ⊢
  obtain ⟨i3, R⟩ := q2
  simp only at hrl hr2
  simp [Ros.cells, i64c, u32v]
  intro v8
  refine callT_eq [] hr2 ?_
  simp [Ros.cells, i64c, u32v]
  intro v9 v10
  refine draw_g [0, 2, 3, 1, 4, 5, 6, 8, 9, 10, 7, 11, 12, 13, 14, 15] 16 [(1, [0]), (7, [0, 1, 2, 3, 4, 5, 6])] (by kernel_rfl) (by kernel_rfl) (by kernel_rfl) ?_
  simp [Ros.cells, i64c, u32v]
  refine callT_eq [(1000, 61)] (Err_T w i3) ?_
  simp [Ros.cells, i64c, u32v]
  refine callT_eq [(1000, 61)] (InLen_T w i3) ?_
  simp [Ros.cells, i64c, u32v]
  refine callT_eq [] (Is_T R hrl) ?_
  simp [Ros.cells, i64c, u32v]
end Go.Proofs.YtekmhdiajjfgfaaDoor.TL
