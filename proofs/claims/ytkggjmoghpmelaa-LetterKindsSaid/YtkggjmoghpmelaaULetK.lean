/- The law LetterKinds, as the code runs. -/
import Derived.Test.YtkggjmoghpmelaaULetB
namespace Go.Proofs.Ytkggjmoghpmelaa.TL
open Go
set_option linter.unusedVariables false
set_option linter.unusedSimpArgs false

def seenL (k : Nat) : List (Int × Int) := (List.range k).map fun (j : Nat) => ((j : Int) + 1, (1 : Int))
theorem seenL_no (k : Nat) : lkp ((k : Int) + 1) (seenL k) = none := lkp_none.2 fun p hp => by
  obtain ⟨j, hj, rfl⟩ := List.mem_map.1 hp
  have := List.mem_range.1 hj
  simp only; omega
theorem seenL_succ (k : Nat) : ins ((k : Int) + 1) (1 : Int) (seenL k) = seenL (k + 1) := by
  rw [ins_new (seenL_no k)]
  simp [seenL, List.range_succ]
@[simp] theorem seenL_len (k : Nat) : (seenL k).length = k := by simp [seenL]
theorem max10 : max (10 : Int) 0 = 10 := rfl
theorem letparse_one (b : UInt8) : letParse [b] = if b.toNat = 0 then (none, 7) else if b.toNat < 128 ∧ 10 < b.toNat then (none, 3) else letParse [b] := by
  split
  · rename_i h
    have e1 : (In.mk [b] 0).count 10 = (⟨[], 0⟩, 0) := by simp [In.count, In.num, numL, h, max10]
    unfold letParse
    rw [e1]
    simp [In.lt, In.fail, In.fin]
  · split
    · rename_i h1 h2
      have e0 : (In.mk [b] 0).num = (⟨[], 0⟩, b.toNat) := by simp [In.num, numL, h1, h2.1, Nat.mod_eq_of_lt h2.1]
      have e1 : (In.mk [b] 0).count 10 = (⟨[], 3⟩, 0) := by
        unfold In.count
        rw [e0, max10]
        simp only
        rw [if_pos (by omega)]
        rfl
      unfold letParse
      rw [e1]
      simp
    · rfl
set_option maxHeartbeats 8000000 in
set_option maxRecDepth 100000 in
theorem LetterKinds_T (m : Mk) (c : Nat) (hm : m.ok) (hc : c ≤ 255) : callT Try.prog 6 [.agg m.cells, .v (.int .u8 c)] ⟨[], []⟩ (fun r h => r = .v (.bool true)) := by
  refine callT_of_body [0, 1, 2, 4, 5, 6, 7, 8, 10, 12, 14, 15, 48, 64] [] Try.func6 rfl (by decide) (by kernel_rfl) rfl ?_
  simp [Mk.cells, i64c, u64c]
  intro v2
  refine callT_eq [] Awk21_T ?_
  simp
  intro v13
  refine loopT_of (Nat × Int) (fun x => x.1 ≤ 10) (fun x => ⟨[(1, .v (.int .u8 c)), (2, .at 2 v2 0), (5, .mp 13 v13), (14, i64c x.1)], [(2, v2, ⟨0, ({m with k := x.2} : Mk).cells⟩), (13, v13, ⟨0, mapC .i64 i64c (seenL x.1)⟩)]⟩) (fun x => 10 - x.1) (0, m.k) (by simp) (by simp [i64c]) (by simp [Mk.cells, i64c, u64c, seenL, mapC]) ?_
  rintro ⟨k, z⟩ hk
  simp only at hk ⊢
  by_cases g : k < 10
  · have hmo : ({m with k := (k : Int)} : Mk).ok := ⟨hm.q, hm.c, hm.s⟩
    have hmk := Make_T {m with k := (k : Int)} hmo
    have hw := mk_wf hmo
    have hkind := mk_kind {m with k := (k : Int)}
    have hkd : ({m with k := (k : Int)} : Mk).kd = k := by unfold Mk.kd; simp only; omega
    rw [hkd] at hkind
    generalize mkLet {m with k := (k : Int)} = x at hmk hw hkind
    have hkx := Kind_T x
    have hf := FromHost_T x
    have hme := let_meth x
    have htv : x.tv = .ifc x.ty (.agg x.fl) := rfl
    have hlen := let_len hw
    have h0 : x.bytes = UInt8.ofNat (k + 1) :: x.body := by
      unfold Let.bytes
      rw [nb_lt (by omega), show x.kind = k + 1 by omega]
      rfl
    have h1 : (UInt8.ofNat (k + 1)).toNat = k + 1 := by simp; omega
    have hw2 : IntKind.i64.wrap ((k + 1 : Nat) : Int) = (k : Int) + 1 := by rw [i64_id (by omega) (by omega)]; omega
    generalize UInt8.ofNat (k + 1) = b0 at h0 h1
    generalize x.body = rest at h0
    rw [h0] at hmk
    have hw1 : IntKind.i64.wrap ((k : Int) + 1) = (k : Int) + 1 := i64_id (by omega) (by omega)
    simp only [htv] at hmk hf
    have hK : (x.kind : Int) = (k : Int) + 1 := by omega
    have hK2 : x.kind = k + 1 := by omega
    rw [hK2] at hf
    simp [i64c] at hf hkx
    simp [Mk.cells, i64c, u64c] at hmk
    have g' : (k : Int) < 10 := by omega
    simp [Mk.cells, i64c, u64c, g, g']
    refine callT_eq [] hmk ?_
    simp [hme]
    refine callT_eq [] hkx ?_
    simp [hw1, hw2, h1, hK]
    refine callT_eq [] hf ?_
    have hd : (6 ≤ (k : Int)) = (6 ≤ k) := by apply propext; omega
    have hz : ¬ ((rest.length : Int) + 1 = 0) := by omega
    simp [hd, hz, hme]
    refine callT_eq [] hkx ?_
    have hno := seenL_no k
    have hsu := seenL_succ k
    have hsa : ((k : Int) + 1) = ((k + 1 : Nat) : Int) := by omega
    rw [hK]
    simp [hno, hw1]
    refine SLx.again (k + 1, (k : Int)) (by simp only; omega) (by simp only; omega) (by simp) ?_
    have hput : mput .i64 ((k : Int) + 1) (.v (.int .i64 (IntKind.i64.wrap 1))) (mapC .i64 i64c (seenL k)) = mapC .i64 i64c (seenL (k + 1)) := (mput_mapC _ (1 : Int) (by rfl) _).trans (by rw [hsu])
    simp [hput]
  · have : k = 10 := by omega
    subst this
    have hb := letparse_one (UInt8.ofNat c)
    have hp := LetParse_T [UInt8.ofNat c]
    have h255 : (UInt8.ofNat c).toNat = c := by simp; omega
    rw [h255] at hb
    have hcs : (1 ≤ c ∧ c ≤ 10) ∨ 127 < c ∨ c = 0 ∨ (10 < c ∧ c ≤ 127) := by omega
    have hbv : TV.v (.int .u8 c) = bv (UInt8.ofNat c) := by simp only [bv, h255]
    have hub : unbv (TV.v (.int .u8 c)) = UInt8.ofNat c := by rw [hbv, unbv_bv]
    have hall : AllB [TV.v (.int .u8 c)] := ⟨[UInt8.ofNat c], by rw [hbv]; rfl⟩
    rcases hcs with h | h | h | h
    · have g1 : (1 : Int) ≤ c := by omega
      have g2 : (c : Int) ≤ 10 := by omega
      simp [i64c, g1, g2]
    · have g1 : (127 : Int) < c := by omega
      simp [i64c, g1]
    · have g1 : ¬ (1 : Int) ≤ c := by omega
      have g2 : ¬ (127 : Int) < c := by omega
      have g3 : (c : Int) = 0 := by omega
      rw [if_pos h] at hb
      rw [hb] at hp
      simp [optTV, i64c] at hp
      simp [i64c, g1, g2]
      intro v70
      refine ⟨hall, ?_⟩
      rw [hub]
      refine callT_eq [] hp ?_
      simp [g3]
    · have g1 : ¬ ((1 : Int) ≤ c ∧ (c : Int) ≤ 10) := by omega
      have g2 : ¬ (127 : Int) < c := by omega
      have g3 : ¬ (c : Int) = 0 := by omega
      have g4 : ¬ (c : Int) ≤ 10 := by omega
      have g5 : (10 : Int) < c := by omega
      rw [if_neg (by omega), if_pos (by omega)] at hb
      rw [hb] at hp
      simp [optTV, i64c] at hp
      simp [i64c, g4, g2]
      intro v70
      refine ⟨hall, ?_⟩
      rw [hub]
      refine callT_eq [] hp ?_
      simp [g3, g5]
end Go.Proofs.Ytkggjmoghpmelaa.TL
