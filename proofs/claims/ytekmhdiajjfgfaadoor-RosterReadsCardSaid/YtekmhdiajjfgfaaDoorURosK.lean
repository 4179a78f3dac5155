/- A roster read of bytes, the reference's. -/
import Derived.Test.YtekmhdiajjfgfaaDoorURosJ
import Derived.Test.YtekmhdiajjfgfaaDoorURosR
namespace Go.Proofs.YtekmhdiajjfgfaaDoor.TL
open Go
set_option linter.unusedVariables false
set_option linter.unusedSimpArgs false

theorem VLx.nilT2 {h : Heap} {S : TV → Heap → Prop} {z b : TV} (k : VLx (.tup [z, .agg [.isl [] 0, b]]) h S) : VLx (.tup [z, .agg [.v (.slice none 0 0), b]]) h S := fun e E w v H hv => by
  refine k e E w v H ?_
  simp only [RV, RVl] at hv ⊢
  obtain ⟨zs, h1, h2, ⟨x, g, kx⟩, ⟨y, gy, cs, c1, c2, ⟨y0, g0, k0⟩, ⟨y1, g1, k1⟩, h3⟩, h4⟩ := hv
  exact ⟨zs, h1, h2, ⟨x, g, kx⟩, ⟨y, gy, cs, c1, c2, ⟨y0, g0, .inl ⟨trivial, trivial, k0⟩⟩, ⟨y1, g1, k1⟩, h3⟩, h4⟩

def sh (s k : Nat) : Nat := s / 2 ^ k
theorem sh_0 (s : Nat) : sh s 0 = s := by simp [sh]
theorem sh_succ (s k : Nat) : sh s (k + 1) = sh s k / 2 := by simp only [sh]; rw [Nat.pow_succ, Nat.div_div_eq_div_mul]
theorem sh_le (s k : Nat) : sh s k ≤ s := Nat.div_le_self _ _
theorem all_zero : (Ros.mk 0 0).all 32 = [] := by decide

set_option maxHeartbeats 2000000 in
set_option maxRecDepth 100000 in
theorem RdRosR_T (i : In) : callT Tryd.prog 30 [rIn i] ⟨[], []⟩ (fun x h => x = .tup [rIn i.ros.1, rRos i.ros.2] ∧ h = []) := by
  refine callT.mono (K := fun x h => (i.ros.1.e ≠ 0 ∧ x = .tup [rIn i.ros.1, .agg [.v (.slice none 0 0), i64c 0]] ∧ h = []) ∨ (i.ros.1.e = 0 ∧ ∃ u, x = .tup [rIn i.ros.1, .agg [.sl 1001 u 0 (i.ros.2.all 32).length, i64c i.ros.2.e]] ∧ h = [(1001, u, ⟨1, (i.ros.2.all 32).map i64c⟩)])) ?_ fun x h hh => ?_
  · refine callT_of_body [0, 1, 2, 3, 4, 5, 6, 7, 20, 26, 31] [1001] Tryd.func30 rfl (by decide) (by kernel_rfl) rfl ?_
    have hn := i.count_rng' 4294967295 (by decide)
    simp
    intro v1 v2 v3
    refine callT_eq [] (TakeCountR_T i 4294967295 (by decide)) ?_
    simp
    refine callT_eq [] (TakeCountR_T (i.count 4294967295).1 1099511627776 (by decide)) ?_
    by_cases h5 : ((i.count 4294967295).1.count 1099511627776).1.e = 0
    · have hros : i.ros = (((i.count 4294967295).1.count 1099511627776).1, ⟨(i.count 4294967295).2.toNat, ((i.count 4294967295).1.count 1099511627776).2⟩) := by
        simp [In.ros, h5]
      rw [hros]
      generalize ((i.count 4294967295).1.count 1099511627776) = B at h5 ⊢
      obtain ⟨s, hs⟩ : ∃ s : Nat, (i.count 4294967295).2 = s := ⟨(i.count 4294967295).2.toNat, by omega⟩
      rw [hs] at hn ⊢
      simp [h5, i64c]
      intro v6
      refine ⟨Nat × Nat, fun x => x.1 ≤ 32, fun x => ⟨[(1, .at 1 v1 0), (2, .at 2 v2 0), (3, .at 3 v3 0), (4, .v (.int .i64 (sh s x.1 : Int))), (6, .at 6 v6 0), (7, .v (.int .i64 x.1))], [(1, v1, ⟨0, [.v (.string (bs B.1.l)), .v (.int .i64 0)]⟩), (2, v2, ⟨0, [.v (.string (bs [])), .v (.int .i64 0)]⟩), (3, v3, ⟨0, [.v (.slice none 0 0), .v (.int .i64 0)]⟩), (6, v6, ⟨0, [.sl 1001 x.2 0 ((Ros.mk s B.2).all x.1).length, .v (.int .i64 B.2)]⟩), (1001, x.2, ⟨1, ((Ros.mk s B.2).all x.1).map i64c⟩)]⟩, fun x => 32 - x.1, ?_, ?_⟩
      · refine SLx.nilCell 6 0 1001 1 (by decide) (by decide) rfl rfl fun u => SLx.fin _ ⟨(0, u), by simp, rfl⟩ ?_ ?_
        · simp [sh_0]
        · simp [Ros.all, setH]
      rintro ⟨k, u⟩ hk
      simp only at hk ⊢
      have hal := (Ros.mk s B.2).all_len k
      by_cases h1 : k < 32
      · have h1' : (k : Int) < 32 := by omega
        have hsu := (Ros.mk s B.2).all_succ k
        simp only [Nat.testBit_eq_decide_div_mod_eq, decide_eq_true_eq] at hsu
        have hle := sh_le s k
        have hss := sh_succ s k
        change (Ros.mk s B.2).all (k + 1) = if sh s k % 2 = 1 then _ else _ at hsu
        generalize hq : sh s k = q at hsu hle hss ⊢
        have e1 : IntKind.i64.wrap ((k : Int) + 1) = ((k + 1 : Nat) : Int) := by rw [i64_id (by omega) (by omega)]; rfl
        have e2 : IntKind.i64.wrap ((q : Int) / 2) = (q : Int) / 2 := i64_id (by omega) (by omega)
        have e3 : (q : Int).tmod 2 = (q : Int) % 2 := Int.tmod_eq_emod_of_nonneg (Int.natCast_nonneg q)
        by_cases hb : q % 2 = 1
        · rw [if_pos hb] at hsu
          have hb' : (q : Int) % 2 = 1 := by omega
          simp [h1', i64c, e3, hb']
          intro v
          refine ⟨by omega, by omega, fun u2 => ?_⟩
          exact SLx.again (k + 1, u2) (by simp only; omega) (by simp only; omega) (by simp [e1, e2, hss]) (by simp [hsu, i64c])
        · rw [if_neg hb] at hsu
          have hb' : ¬ (q : Int) % 2 = 1 := by omega
          simp [h1', i64c, e3, hb']
          exact SLx.again (k + 1, u) (by simp only; omega) (by simp only; omega) (by simp [e1, e2, hss]) (by simp [hsu, i64c])
      · have : k = 32 := by omega
        subst this
        simp [h5, i64c]
        refine draw_g [0, 1, 2] 3 [(2, [0])] (by kernel_rfl) (by kernel_rfl) (by kernel_rfl) ?_
        simp [h5, i64c]
    · have hros : i.ros = (((i.count 4294967295).1.count 1099511627776).1, ⟨0, 0⟩) := by
        simp [In.ros, h5]
      simp [h5, hros, i64c]
      rintro a a1 b (⟨rfl, -⟩ | ⟨rfl, -⟩ | ⟨rfl, -⟩) <;> decide
  · rcases hh with ⟨h1, rfl, rfl⟩ | ⟨h1, u, rfl, rfl⟩
    · have hz : i.ros.2 = ⟨0, 0⟩ := by
        unfold In.ros at h1 ⊢
        simp only at h1 ⊢
        split
        · rfl
        · rename_i hh; rw [if_neg hh] at h1; exact absurd h1 hh
      refine VLx.nilT2 (VLx.done ⟨?_, rfl⟩)
      rw [hz]; simp [all_zero]
    · refine VLx.frz 1001 rfl (VLx.done ?_)
      simp [i64c]
end Go.Proofs.YtekmhdiajjfgfaaDoor.TL
