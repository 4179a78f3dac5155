/- The law UnitReads, as the code runs. -/
import Derived.Test.YtfhckddfmlljfaaUIs8
import Derived.Test.YtfhckddfmlljfaaUTab8
import Derived.Test.YtfhckddfmlljfaaUReadR8b
import Derived.Test.YtfhckddfmlljfaaTg3
namespace Go.Proofs.Ytfhckddfmlljfaa.TL
open Go
set_option linter.unusedVariables false
set_option linter.unusedSimpArgs false

set_option maxRecDepth 100000 in
theorem Cut_T (l : List UInt8) (n : Nat) (hn : n < 9223372036854775808) : callT Try.prog 33 [.v (.string (bs l)), .v (.int .i64 n)] ⟨[], []⟩ (fun r h => r = .v (.string (bs (l.take n))) ∧ h = []) := by
  refine callT_of_body [0, 1, 4, 8] [] Try.func33 rfl (by decide) (by kernel_rfl) rfl ?_
  by_cases h : n < l.length
  · simp [h]
    omega
  · have : List.take n l = l := List.take_of_length_le (by omega)
    simp [h, this]

theorem Read8_no {v : Nat} {i : In} (h : i.tab.1.e ≠ 0) : callT Try.prog 35 [.at 1000 v 0] ⟨[], [(1000, v, inB i)]⟩ (fun r h => r = .v (.pointer none) ∧ h = [(1000, v, inB i.tab.1)]) :=
  callT.mono (Read8_T v i) fun r h' hh => by
    rcases hh with ⟨_, rfl, rfl⟩ | ⟨h1, _⟩
    · exact VLx.done ⟨rfl, rfl⟩
    · exact absurd h1 h
theorem Read8_yes {v : Nat} {i : In} (h : i.tab.1.e = 0) : callT Try.prog 35 [.at 1000 v 0] ⟨[], [(1000, v, inB i)]⟩ (fun r h => ∃ vt u, r = .at 11 vt 0 ∧ h = [(1000, v, inB i.tab.1), (11, vt, ⟨0, [.sl 1001 u 0 i.tab.2.l.length, i64v i.tab.2.next]⟩), (1001, u, ⟨6, rowU i.tab.2.l⟩)]) :=
  callT.mono (Read8_T v i) fun r h' hh => by
    rcases hh with ⟨h1, _⟩ | ⟨h1, hh⟩
    · exact absurd h h1
    · exact VLx.done hh

set_option maxHeartbeats 4000000 in
set_option maxRecDepth 100000 in
theorem UnitReads_T (l0 : List UInt8) : callT Try.prog 9 [.v (.string (bs l0))] ⟨[], []⟩ (fun r h => r = .v (.bool true)) := by
  refine callT_of_body [0, 2, 3, 4, 5, 6, 35] [] Try.func9 rfl (by decide) (by kernel_rfl) rfl ?_
  simp
  refine callT_eq [] (Cut_T l0 400 (by decide)) ?_
  simp
  have hlen : (List.take 400 l0).length ≤ 400 := by simp; omega
  generalize List.take 400 l0 = l at hlen ⊢
  refine callT_ex [(5, 10)] (Open_T l) ?_
  simp
  intro v
  by_cases he : (In.tab ⟨l, 0⟩).1.e = 0
  · obtain ⟨-, htw, hl⟩ := In.tab_ok he
    simp only at hl
    refine callT_ex2 [(1000, 10), (11, 12), (1001, 1001)] (Read8_yes (v := v) he) ?_
    simp [i64v]
    intro vt u
    refine callT_eq [] (ReadR8_T ⟨l, 0⟩) ?_
    generalize hq : In.tab ⟨l, 0⟩ = q at he htw hl
    obtain ⟨i2, t⟩ := q
    simp only at he htw hl
    simp [i64v, he]
    intro v5 v6
    refine draw_g [0, 1, 2, 3, 5, 6, 4, 7, 8, 9, 10, 11, 12, 13, 14] 15 [(0, []), (4, [0, 1, 2, 3])] (by kernel_rfl) (by kernel_rfl) (by kernel_rfl) ?_
    simp
    refine callT_eq [] Awk8_T ?_
    simp
    refine callT_eq [(1000, 10)] (Err_T v i2) ?_
    simp [he]
    refine draw_g [0, 1, 2, 3, 4, 5, 6, 7, 8, 9, 11, 12, 13, 10, 14, 15, 16, 17, 19, 20, 22, 18, 21] 23 [(6, [0, 1, 2, 3, 4, 5]), (10, [0, 1, 2, 3, 4, 5, 6, 7, 8, 9]), (18, [0, 1, 2, 3, 4, 5, 6, 7, 8, 9, 10, 11, 12, 13, 14, 15, 16, 17])] (by kernel_rfl) (by kernel_rfl) (by kernel_rfl) ?_
    simp [he]
    refine callT_eq [(1000, 12), (1001, 1001)] (Is_T vt u t htw) ?_
    simp [i64v]
    refine callT_eq [(1000, 10)] (InLen_T v i2) ?_
    simp [i64v, he]
    refine callT_eq [(1000, 12), (1001, 1001)] (Text8_T vt u t htw) ?_
    simp [i64v, he, hl]
    have := congrArg List.length hl
    simp at this
    omega
  · refine callT_eq [(1000, 10)] (Read8_no (v := v) he) ?_
    simp [i64v]
    refine callT_eq [] (ReadR8_T ⟨l, 0⟩) ?_
    simp [i64v]
    intro v5 v6
    refine draw_g [0, 1, 2, 3, 5, 6, 4, 7, 8, 9, 10, 11, 12, 13, 14] 15 [(0, []), (4, [0, 1, 2, 3])] (by kernel_rfl) (by kernel_rfl) (by kernel_rfl) ?_
    simp
    refine callT_eq [] Awk8_T ?_
    simp
    refine callT_eq [(1000, 10)] (Err_T v (In.tab ⟨l, 0⟩).1) ?_
    simp [he]
    refine draw_g [0, 1, 2, 3, 4, 5, 6, 7, 8, 9, 11, 12, 13, 10, 14, 15, 16, 17, 19, 20, 22, 18, 21] 23 [(6, [0, 1, 2, 3, 4, 5]), (10, [0, 1, 2, 3, 4, 5, 6, 7, 8, 9]), (18, [0, 1, 2, 3, 4, 5, 6, 7, 8, 9, 10, 11, 12, 13, 14, 15, 16, 17])] (by kernel_rfl) (by kernel_rfl) (by kernel_rfl) ?_
    simp [he]
end Go.Proofs.Ytfhckddfmlljfaa.TL
