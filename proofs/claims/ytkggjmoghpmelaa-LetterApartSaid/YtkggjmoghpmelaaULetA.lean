/- The law LetterReads, as the code runs; the law's awake. -/
import Derived.Test.YtkggjmoghpmelaaULetR
namespace Go.Proofs.Ytkggjmoghpmelaa.TL
open Go
set_option linter.unusedVariables false
set_option linter.unusedSimpArgs false

theorem vote3_parse : letParse [2, 3, 1] = (some (.vote 3 true), 0) := by kernel_rfl
theorem vote3_bytes : (Let.vote 3 true).bytes = [2, 3, 1] := by simp [Let.bytes, Let.body, Let.kind, nb_lt]
set_option maxHeartbeats 2000000 in
set_option maxRecDepth 100000 in
theorem Awk21_T : callT Try.prog 10 [] ⟨[], []⟩ (fun x h => x = .v (.bool true) ∧ h = []) := by
  refine callT_of_body [0, 1, 2] [] Try.func10 rfl (by decide) (by kernel_rfl) rfl ?_
  have hp := LetParse_T [2, 3, 1]
  rw [vote3_parse] at hp
  have ht := LetText_T (.vote 3 true) ⟨by decide, by decide⟩
  rw [vote3_bytes] at ht
  have hb : bs [2, 3, 1] = { data := #[2, 3, 1] } := rfl
  rw [hb] at hp ht
  have h1 := FromHost_T (.ask 0)
  have h2 := FromHost_T .leave
  simp [Let.tv, Let.ty, Let.fl, Let.kind, optTV, i64c] at hp ht h1 h2
  simp
  refine callT_eq [] hp ?_
  simp
  refine callT_eq [] ht ?_
  simp
  refine callT_eq [] h1 ?_
  simp
  refine callT_eq [] h2 ?_
  simp

theorem fin_ok {i : In} (h : i.fin.e = 0) : i.e = 0 ∧ i.l = [] := by
  unfold In.fin at h
  split at h
  · exact absurd h (In.fail_e (by decide))
  · rename_i hh; exact ⟨h, by simpa using hh⟩
theorem let_two (s : List UInt8) : (∃ x : Let, letParse s = (some x, 0) ∧ letCheck s = ((x.kind : Int), 0) ∧ x.rd ∧ x.bytes = s) ∨ (∃ e : Int, e ≠ 0 ∧ letParse s = (none, e) ∧ (letCheck s).2 = e) := by
  have hk := In.count_le (In.mk s 0) 10 (by decide)
  have hok := In.count_ok (i := In.mk s 0) (m := 10)
  unfold letParse letCheck
  generalize (In.mk s 0).count 10 = C at hk hok ⊢
  obtain ⟨i, k⟩ := C
  simp only at hk hok ⊢
  by_cases he : i.e = 0
  · obtain ⟨_, hs⟩ := hok he
    by_cases hk0 : k = 0
    · subst hk0
      refine .inr ⟨7, by decide, ?_, ?_⟩
      · simp [he, In.lt, In.fail, In.fin]
      · simp [he]
    · by_cases hf : (In.lt k i).1.fin.e = 0
      · obtain ⟨h1, h2⟩ := fin_ok hf
        cases ho : (In.lt k i).2 with
        | none =>
          exfalso
          unfold In.lt at ho
          have : k = 1 ∨ k = 2 ∨ k = 3 ∨ k = 4 ∨ k = 5 ∨ k = 6 ∨ k = 7 ∨ k = 8 ∨ k = 9 ∨ k = 10 := by omega
          rcases this with rfl | rfl | rfl | rfl | rfl | rfl | rfl | rfl | rfl | rfl <;> simp at ho
        | some x =>
          obtain ⟨g1, g2, g3, g4⟩ := lt_ok ho h1
          have hkx := kind_le x
          subst g2
          refine .inl ⟨x, ?_, ?_, g4, ?_⟩
          · simp [he, hf, ho]
          · simp [he, hf, show ¬ x.kind = 0 by omega]
          · rw [hs, g3, h2]
            simp [Let.bytes]
      · refine .inr ⟨(In.lt k i).1.fin.e, hf, ?_, ?_⟩
        · simp [he, hf]
        · simp [he, hk0]
  · exact .inr ⟨i.e, he, by simp [he], by simp [he]⟩

set_option maxHeartbeats 4000000 in
set_option maxRecDepth 100000 in
theorem LetterReads_T (l0 : List UInt8) : callT Try.prog 3 [.v (.string (bs l0))] ⟨[], []⟩ (fun r h => r = .v (.bool true)) := by
  refine callT_of_body [0, 2, 3, 4, 5, 6, 32] [] Try.func3 rfl (by decide) (by kernel_rfl) rfl ?_
  simp
  refine callT_eq [] (Cut_T l0 250 (by decide)) ?_
  simp
  generalize List.take 250 l0 = s
  have hp := LetParse_T s
  have hc := LetCheck_T s
  rcases let_two s with ⟨x, h1, h2, h3, h4⟩ | ⟨e, h0, h1, h2⟩
  · have hk := Kind_T x
    have ht := LetText_T x h3
    rw [h4] at ht
    rw [h1] at hp
    rw [h2] at hc
    have htv : x.tv = .ifc x.ty (.agg x.fl) := rfl
    have hme : methOf Try.prog x.ty "Kind" = some x.meth := by cases x <;> simp [Let.ty, Let.meth]
    simp only [optTV, htv] at hp ht
    simp [optTV, i64c] at hp ht hc hk
    refine callT_eq [] hp ?_
    simp
    refine callT_eq [] hc ?_
    simp
    refine callT_eq [] Awk21_T ?_
    simp [hme]
    refine callT_eq [] hk ?_
    simp
    refine callT_eq [] ht ?_
    simp
  · rw [h1] at hp
    generalize letCheck s = C at h2 hc
    obtain ⟨c1, c2⟩ := C
    simp only at h2
    subst h2
    simp [optTV, i64c] at hp hc
    refine callT_eq [] hp ?_
    simp
    refine callT_eq [] hc ?_
    simp
    refine callT_eq [] Awk21_T ?_
    simp [h0]
end Go.Proofs.Ytkggjmoghpmelaa.TL
