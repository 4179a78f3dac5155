/- A roster's bytes. -/
import Derived.Test.YtekmhdiajjfgfaaDoorURosR
import Derived.Test.YtekmhdiajjfgfaaDoorUR2b
namespace Go.Proofs.YtekmhdiajjfgfaaDoor.TL
open Go
set_option linter.unusedVariables false
set_option linter.unusedSimpArgs false

def md (s k : Nat) : Nat := s % 2 ^ k
def pw (k : Nat) : Nat := 2 ^ k
theorem md_0 (s : Nat) : md s 0 = 0 := by simp [md, Nat.mod_one]
theorem pw_0 : pw 0 = 1 := rfl
theorem pw_succ (k : Nat) : pw (k + 1) = pw k * 2 := Nat.pow_succ 2 k
theorem pw_le {k : Nat} (h : k ≤ 32) : pw k ≤ 4294967296 := Nat.pow_le_pow_right (n := 2) (by decide) h
theorem md_le (s k : Nat) : md s k ≤ s := Nat.mod_le _ _
theorem md_32 {s : Nat} (h : s < 2 ^ 32) : md s 32 = s := Nat.mod_eq_of_lt h
theorem md_succ (s k : Nat) : md s (k + 1) = if s.testBit k then md s k + pw k else md s k := by
  unfold md pw
  rw [Nat.pow_succ, Nat.mod_mul, Nat.testBit_eq_decide_div_mod_eq]
  by_cases h : s / 2 ^ k % 2 = 1
  · simp [h]
  · have : s / 2 ^ k % 2 = 0 := by omega
    simp [this]

theorem has_nat1 {r : Ros} {i : Nat} (hi : i < 32) : ((i : Int) ∈ r.all 32) ↔ r.s.testBit i = true := by
  rw [mem_all]
  have : (i : Int) < 32 := by omega
  simp [Ros.has, this]
set_option maxHeartbeats 1000000 in
set_option maxRecDepth 100000 in
theorem SetN_T (r : Ros) (hs : r.s < 2 ^ 32) : callT Tryd.prog 51 [rRos r] ⟨[], []⟩ (fun x h => x = .v (.int .u64 r.s) ∧ h = []) := by
  refine callT_of_body [0, 1, 2, 3, 4, 5, 7, 12] [] Tryd.func51 rfl (by decide) (by kernel_rfl) rfl ?_
  simp [i64c]
  intro v1
  have hal := r.all_len 32
  refine loopT_of (Nat × Nat) (fun x => x.1 ≤ 32) (fun x => ⟨[(1, .at 1 v1 0), (3, .v (.int .u64 (md r.s x.1))), (4, .v (.int .u64 (pw x.1))), (5, .v (.int .i64 x.1))], [(1, v1, ⟨0, [.isl ((r.all 32).map i64c) (r.all 32).length, i64c r.e]⟩)]⟩) (fun x => 32 - x.1) (0, 0) (by simp) (by simp [md_0, pw_0]) (by simp [i64c]) ?_
  rintro ⟨k, z⟩ hk
  simp only at hk ⊢
  by_cases h1 : k < 32
  · have h1' : (k : Int) < 32 := by omega
    have hp := pw_le (k := k) (by omega)
    have hm := md_le r.s k
    have hms := md_succ r.s k
    have hps := pw_succ k
    have hin := has_nat1 (r := r) h1
    have e1 : IntKind.i64.wrap ((k : Int) + 1) = ((k + 1 : Nat) : Int) := by rw [i64_id (by omega) (by omega)]; rfl
    have e2 : IntKind.u64.wrap ((pw k : Int) * 2) = (pw k : Int) * 2 := u64_id (by omega) (by omega)
    have e3 : IntKind.u64.wrap ((md r.s k : Int) + (pw k : Int)) = (md r.s k : Int) + (pw k : Int) := u64_id (by omega) (by omega)
    simp [h1', i64c]
    refine callT_eq [] (HasR_T (r.all 32) r.e k (by omega)) ?_
    by_cases hb : r.s.testBit k = true
    · rw [if_pos hb] at hms
      simp [i64c, hin, hb]
      exact SLx.again (k + 1, 0) (by simp only; omega) (by simp only; omega) (by simp [e1, e2, e3, hms, hps]) (by simp [i64c])
    · rw [if_neg hb] at hms
      simp [i64c, hin, hb]
      exact SLx.again (k + 1, 0) (by simp only; omega) (by simp only; omega) (by simp [e1, e2, hms, hps]) (by simp [i64c])
  · have : k = 32 := by omega
    subst this
    simp [md_32 hs]

def Ros.bytes (r : Ros) : List UInt8 := nb r.s ++ nb r.e.toNat
set_option maxHeartbeats 1000000 in
set_option maxRecDepth 100000 in
theorem RTextR_T (r : Ros) (hs : r.s < 2 ^ 32) (he : 0 ≤ r.e) (he2 : r.e ≤ 9223372036854775807) : callT Tryd.prog 36 [rRos r] ⟨[], []⟩ (fun x h => x = .v (.string (bs r.bytes)) ∧ h = []) := by
  refine callT_of_body [0, 1, 2] [] Tryd.func36 rfl (by decide) (by kernel_rfl) rfl ?_
  simp [i64c]
  intro v1
  refine draw_g [0, 3, 4, 1, 2] 5 [(1, [0]), (2, [0, 1])] (by kernel_rfl) (by kernel_rfl) (by kernel_rfl) ?_
  simp [i64c]
  refine callT_eq [] (SetN_T r hs) ?_
  simp [i64c]
  refine callT_eq [] (NumR_T r.s (by omega)) ?_
  simp [i64c]
  refine callT_eq [] (CountR_T r.e he2) ?_
  have l1 := nb_len10 (n := r.s) (by omega)
  have l2 := nb_len10 (n := r.e.toNat) (by omega)
  simp [i64c, Ros.bytes]
  omega

set_option maxHeartbeats 1000000 in
set_option maxRecDepth 100000 in
theorem RPut_T (v u : Nat) (b : List UInt8) (r : Ros) (hs : r.s < 2 ^ 32) (he : 0 ≤ r.e) (he2 : r.e ≤ 9223372036854775807) (hb : b.length ≤ 1000000) : callT Tryd.prog 35 [.agg r.cells, .at 1000 v 0] ⟨[], outH v u b⟩ (fun x h => ∃ u', x = .tup [] ∧ h = outH v u' (b ++ r.bytes)) := by
  refine callT_of_body [0, 1, 2] [1000, 1001] Tryd.func35 rfl (by decide) (by kernel_rfl) rfl ?_
  simp [Ros.cells, u32v, i64c]
  intro v2
  have e1 : IntKind.u64.wrap (r.s : Int) = r.s := u64_id (by omega) (by omega)
  have hl1 := nb_len10 (n := r.s) (by omega)
  refine draw_g [0, 1, 2, 3, 4, 6, 7, 8, 5] 9 [(5, [0, 1, 2, 3, 4])] (by kernel_rfl) (by kernel_rfl) (by kernel_rfl) ?_
  simp [e1]
  refine callT_ex [(1000, 1000), (1001, 1001)] (OutNum_T v u b [r.s] (by simp; omega) (by simp; omega)) ?_
  simp [u64c, i64c]
  intro u2
  refine callT_ex [(1000, 1000), (1001, 1001)] (OutCount_T v u2 (b ++ nb r.s) [r.e] (by simp; omega) (by simp; omega)) ?_
  simp [u64c, i64c, Ros.bytes]
end Go.Proofs.YtekmhdiajjfgfaaDoor.TL
