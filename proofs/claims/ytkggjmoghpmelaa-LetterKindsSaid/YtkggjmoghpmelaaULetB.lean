/- The law LetterApart, as the code runs. -/
import Derived.Test.YtkggjmoghpmelaaULetT
import Derived.Test.YtkggjmoghpmelaaUPre
namespace Go.Proofs.Ytkggjmoghpmelaa.TL
open Go
set_option linter.unusedVariables false
set_option linter.unusedSimpArgs false

theorem let_len {x : Let} (h : x.wf) : 1 ≤ x.bytes.length ∧ x.bytes.length ≤ 3000000 := by
  have hk := kind_le x
  have l0 := nb_len10 (n := x.kind) (by omega)
  have l1 : 1 ≤ (nb x.kind).length := by rw [nb_lt (by omega)]; simp
  simp only [Let.bytes, List.length_append]
  suffices x.body.length ≤ 2000100 by omega
  cases x with
  | give t b =>
    obtain ⟨ht, h1, h2⟩ := h
    have := nb_len10 (n := t.toNat) (by omega)
    have := batchlen8 (l := b) (fun o ho => (h1 o ho).2) h2
    simp only [Let.body, List.length_append]; omega
  | vote p y =>
    obtain ⟨ht, h1⟩ := h
    have := nb_len10 (n := p.toNat) (by omega)
    have : (nb (if y = true then 1 else 0)).length ≤ 10 := nb_len10 (by split <;> omega)
    simp only [Let.body, List.length_append]; omega
  | leave => simp [Let.body]
  | hash t q =>
    obtain ⟨ht, h1⟩ := h
    have := nb_len10 (n := t.toNat) (by omega)
    have := nb_len10 (n := q) h1
    simp only [Let.body, List.length_append]; omega
  | enter => simp [Let.body]
  | ready t =>
    have ht : 0 ≤ t ∧ t ≤ 1099511627776 := h
    have := nb_len10 (n := t.toNat) (by omega)
    simp only [Let.body]; omega
  | turn r =>
    have := rec_len2 (r := r) h
    simp only [Let.body]; omega
  | ask p =>
    have ht : 0 ≤ p ∧ p ≤ 31 := h
    have := nb_len10 (n := p.toNat) (by omega)
    simp only [Let.body]; omega
  | welc p =>
    have ht : 0 ≤ p ∧ p ≤ 31 := h
    have := nb_len10 (n := p.toNat) (by omega)
    simp only [Let.body]; omega
  | piece p =>
    have := pcs_len (p := p) h
    simp only [Let.body]; omega
theorem let_head {x y : Let} (h : x.bytes = y.bytes) : x.kind = y.kind := by
  have h1 := kind_le x
  have h2 := kind_le y
  unfold Let.bytes at h
  rw [nb_lt (by omega), nb_lt (by omega)] at h
  have := List.cons.inj h
  have := congrArg UInt8.toNat this.1
  rw [ofNat_toNat (by omega), ofNat_toNat (by omega)] at this
  exact this
set_option maxHeartbeats 4000000 in
set_option maxRecDepth 100000 in
theorem LetterApart_T (a b : Mk) (n : Int) (ha : a.ok) (hb : b.ok) : callT Try.prog 5 [.agg a.cells, .agg b.cells, i64c n] ⟨[], []⟩ (fun r h => r = .v (.bool true)) := by
  refine callT_of_body [0, 1, 2, 3, 4, 6, 7, 8, 9, 10, 12, 14, 16, 49] [] Try.func5 rfl (by decide) (by kernel_rfl) rfl ?_
  have hmx := Make_T a ha
  have hmy := Make_T b hb
  have hwx := mk_wf ha
  have hwy := mk_wf hb
  generalize mkLet a = x at hmx hwx
  generalize mkLet b = y at hmy hwy
  have hkx := Kind_T x
  have hky := Kind_T y
  have htx := LetText_T x hwx.rd
  have hty := LetText_T y hwy.rd
  have hp1 := LetParse_T (x.bytes ++ [0])
  rw [letparse_more hwx] at hp1
  have hlen := let_len hwx
  have hen := i64_and65535 n
  have hm : ∃ m : Nat, (n % 65536).tmod (x.bytes.length : Int) = m ∧ m < x.bytes.length := by
    refine ⟨((n % 65536).tmod (x.bytes.length : Int)).toNat, ?_, ?_⟩
    · rw [Int.tmod_eq_emod_of_nonneg (by omega)]
      have := Int.emod_nonneg (n % 65536) (show (x.bytes.length : Int) ≠ 0 by omega)
      omega
    · rw [Int.tmod_eq_emod_of_nonneg (by omega)]
      have := Int.emod_nonneg (n % 65536) (show (x.bytes.length : Int) ≠ 0 by omega)
      have := Int.emod_lt_of_pos (n % 65536) (show (0 : Int) < x.bytes.length by omega)
      omega
  obtain ⟨m, hm1, hm2⟩ := hm
  have hp2 := LetParse_T (x.bytes.take m)
  rw [letparse_less hwx hm2] at hp2
  have hmex := let_meth x
  have hmey := let_meth y
  have htvx : x.tv = .ifc x.ty (.agg x.fl) := rfl
  have htvy : y.tv = .ifc y.ty (.agg y.fl) := rfl
  have hhead := fun h => let_head (x := x) (y := y) h
  simp only [optTV, htvx, htvy] at hp1 hp2 htx hty hmx hmy
  generalize x.kind = K at hkx hhead
  generalize y.kind = L at hky hhead
  generalize x.bytes = p at *
  generalize y.bytes = r at *
  simp [i64c] at hp1 hp2 hkx hky hmx hmy
  simp [Mk.cells, i64c, u64c] at hmx hmy ⊢
  have hne : ¬ ((p.length : Int) = 0) := by omega
  have hpe : ¬ p = [] := fun hh => by rw [hh] at hlen; simp at hlen
  have hsz : (p.length : Int) + 1 ≤ 9223372036854775807 := by omega
  intro v1 v2
  refine callT_eq [] Awk21_T ?_
  simp
  refine callT_eq [] hmx ?_
  simp
  refine callT_eq [] hmy ?_
  simp [hmex]
  refine callT_eq [] hkx ?_
  simp [hmey]
  refine callT_eq [] hky ?_
  by_cases hKL : K = L
  · subst hKL
    by_cases hpr : p = r
    · subst hpr
      simp
      refine callT_eq [] htx ?_
      simp
      refine callT_eq [] hty ?_
      simp
      refine callT_eq [] htx ?_
      simp
      refine ⟨by omega, ?_⟩
      refine callT_eq [] hp1 ?_
      simp [hen, hm1, hne]
      refine ⟨hpe, by omega, ?_⟩
      refine callT_eq [] hp2 ?_
      simp
    · simp
      refine callT_eq [] htx ?_
      simp
      refine callT_eq [] hty ?_
      simp [hpr]
      refine callT_eq [] htx ?_
      simp
      refine ⟨by omega, ?_⟩
      refine callT_eq [] hp1 ?_
      simp [hen, hm1, hne]
      refine ⟨hpe, by omega, ?_⟩
      refine callT_eq [] hp2 ?_
      simp
  · have hKL' : ¬ (K : Int) = L := by omega
    have hpr : ¬ p = r := fun hh => hKL (hhead hh)
    simp [hKL, hKL']
    refine callT_eq [] htx ?_
    simp
    refine callT_eq [] hty ?_
    simp [hpr]
    refine callT_eq [] htx ?_
    simp
    refine callT_eq [] hty ?_
    simp [hpr]
    refine callT_eq [] htx ?_
    simp
    refine ⟨by omega, ?_⟩
    refine callT_eq [] hp1 ?_
    simp [hen, hm1, hne]
    refine ⟨hpe, by omega, ?_⟩
    refine callT_eq [] hp2 ?_
    simp
end Go.Proofs.Ytkggjmoghpmelaa.TL
