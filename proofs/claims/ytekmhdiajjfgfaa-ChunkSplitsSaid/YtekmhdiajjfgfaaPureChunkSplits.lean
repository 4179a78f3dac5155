/- Pieces put together give the text again, the twin cuts alike, each piece may be: the law's pure statement, for every text and every number. -/
import Derived.Test.YtekmhdiajjfgfaaQChunkSplitsx6
import Derived.Test.YtekmhdiajjfgfaaSplit
import Derived.Test.YtekmhdiajjfgfaaNum
namespace Go.Proofs.Ytekmhdiajjfgfaa.Pure
open Go.Proofs.Ytekmhdiajjfgfaa Go.RowKit Go.Proofs.Ytekmhdiajjfgfaa.QChunkSplits Go.Proofs.YtekmhdiajjfgfaaW.PrintWords Go.Proofs.YtekmhdiajjfgfaaW.PrintLast Go.Proofs.YtekmhdiajjfgfaaW.PrintMore
set_option linter.unusedVariables false
set_option linter.unusedSimpArgs false

theorem ext_add (x : ByteArray) (i : Nat) (hi : i < cnt x.size) : x.extract 0 (min (i * 100) x.size) ++ ext x i = x.extract 0 (min ((i + 1) * 100) x.size) := by
  unfold cnt at hi
  unfold ext
  rw [Nat.min_eq_left (by omega : i * 100 ≤ x.size), ByteArray.extract_append_extract]
  congr 1 <;> omega
theorem loop_true (x : ByteArray) (hx : x.size ≤ 65536) (t : Int) (h0 : 0 ≤ t) (h1 : t ≤ 1099511627776) (C : Nat) (hC : C = cnt x.size) : ∀ (d q i : Nat), i + d = cnt x.size →
    cotillionlaw11_ChunkSplits.l0 (d + 3 + q) x (pcs t (fnv x) x C) (prs t (fnv x) x C) (x.extract 0 (min (i * 100) x.size)) (pcs t (fnv x) x C) C i = some true
  | 0, q, i, hd => by
    subst hC
    rw [show 0 + 3 + q = (q + 2) + 1 from by omega]
    simp only [cotillionlaw11_ChunkSplits.l0]
    rw [if_neg (by omega), Nat.min_eq_right (by unfold cnt at hd; omega), ByteArray.extract_zero_size]
    simp
  | d + 1, q, i, hd => by
    have hi : i < cnt x.size := by omega
    have ih := loop_true x hx t h0 h1 C hC d q (i + 1) (by omega)
    rw [show d + 1 + 3 + q = (d + 3 + q) + 1 from by omega]
    simp only [cotillionlaw11_ChunkSplits.l0]
    have hc : (cnt x.size : Int) * 100 ≤ x.size + 99 := by unfold cnt; omega
    have e2 : wrap64 ((i : Int) + 1) = ((i + 1 : Nat) : Int) := wrap_in (by omega) (by omega)
    have es : (x.extract 0 (min (i * 100) x.size)).size ≤ x.size := by rw [ByteArray.size_extract]; omega
    have ez := ext_size x i hi
    have ck := check_is t (fnv x) x hx h0 h1 i hi (d + 3 + q) (by omega)
    have r0 : rd_T31 (pcs t (fnv x) x C) 0 = pc t (fnv x) x 0 := pcs_at (i := 0) t (fnv x) x (by omega)
    rw [if_pos (by omega), if_pos (by omega), pcs_len, prs_len, if_pos (by omega), pcs_at (i := i) t (fnv x) x (by omega), prs_at (i := i) t (fnv x) x (by omega), r0]
    simp only [pc, pr, cotillionlaw11_Told.f, chunk_Piece_Head.f, Option.bind_some]
    rw [if_pos (by omega), if_pos (by omega)]
    simp only [beq_self_eq_true, Bool.not_true, Bool.or_self, Bool.false_eq_true, if_false, ck, Option.bind_some, if_true]
    rw [if_pos (by omega), ext_add x i hi, e2, ih]
theorem ChunkSplits : cotillionlaw11_ChunkSplits.Pure := by
  intro a0 a1 hw0 hw1
  have hcut : ∃ x : ByteArray, cotillionlaw01_Cut.f a0 2000 = some x ∧ x.size ≤ 2000 := by
    unfold cotillionlaw01_Cut.f
    by_cases h : (a0.size : Int) > 2000
    · exact ⟨_, by rw [if_pos h, if_pos (by decide), if_pos (by omega)], by rw [ByteArray.size_extract]; simp; omega⟩
    · exact ⟨a0, by rw [if_neg h], by omega⟩
  obtain ⟨x, hcut, hx⟩ := hcut
  have ht : 0 ≤ Go.bits .and .i64 a1 65535 ∧ Go.bits .and .i64 a1 65535 ≤ 65535 := by rw [i64_and65535]; omega
  have hl := loop_true x (by omega) (Go.bits .and .i64 a1 65535) ht.1 (by omega) _ rfl (cnt x.size) (4000 - cnt x.size - 4) 0 (by omega)
  have hq : cnt x.size ≤ 21 := by unfold cnt; omega
  rw [show cnt x.size + 3 + (4000 - cnt x.size - 4) = 3999 from by omega] at hl
  refine ⟨4000, ?_⟩
  unfold cotillionlaw11_ChunkSplits.f
  have hm5 : chunk_Count.f (-5) = some 0 := by kernel_rfl
  rw [hcut, Option.bind_some, split_is _ x (by omega) 4000 (by omega), Option.bind_some, refsplit_is _ x (by omega) 4000 (by omega), Option.bind_some, count_is x.size (by omega), hm5]
  simp only [cotillionlaw11_awake.f, Option.bind_some, if_true, pcs_len, prs_len]
  rw [show ((0 : Int) != 0) = false from rfl]
  simp only [cotillionlaw11_ChunkSplits.j0, pcs_len]
  rw [if_neg (by decide)]
  rw [show (⟨#[]⟩ : ByteArray) = x.extract 0 (min (0 * 100) x.size) from by simp; rfl]
  exact hl
end Go.Proofs.Ytekmhdiajjfgfaa.Pure
