/- The law ChunkNewer, as the code runs. -/
import Derived.Test.YtijgbinkdjekoaaUGatA
namespace Go.Proofs.Ytijgbinkdjekoaa.TL
open Go
set_option linter.unusedVariables false
set_option linter.unusedSimpArgs false

theorem i64_and65535 (n : Int) : Go.bits .and .i64 n 65535 = n % 65536 := by
  have := Int.emod_nonneg n (show (18446744073709551616 : Int) ≠ 0 by decide)
  show IntKind.i64.wrap ((BitVec.ofInt 64 n &&& BitVec.ofInt 64 65535).toNat : Int) = _
  rw [BitVec.toNat_and, BitVec.toNat_ofInt, show (BitVec.ofInt 64 65535).toNat = 2 ^ 16 - 1 from rfl, Nat.and_two_pow_sub_one_eq_mod, IntKind.wrap_i64]
  omega
theorem i64_and255 (n : Int) : Go.bits .and .i64 n 255 = n % 256 := by
  have := Int.emod_nonneg n (show (18446744073709551616 : Int) ≠ 0 by decide)
  show IntKind.i64.wrap ((BitVec.ofInt 64 n &&& BitVec.ofInt 64 255).toNat : Int) = _
  rw [BitVec.toNat_and, BitVec.toNat_ofInt, show (BitVec.ofInt 64 255).toNat = 2 ^ 8 - 1 from rfl, Nat.and_two_pow_sub_one_eq_mod, IntKind.wrap_i64]
  omega
theorem gS_b {G : Gth} {t : Int} {s : List UInt8} (hG : G.b ≤ 65536) (hl : s.length ≤ 65536) (k : Nat) : (gS G t s k).b ≤ 65536 := by
  unfold gS
  split
  · exact hG
  · simp only [gP]; omega
theorem pieces_s (t : Int) (s : List UInt8) (k : Nat) : ∀ p ∈ nsOf (pieces t s k), p.2.length ≤ 100 := fun p hp => by
  obtain ⟨q, hq, rfl⟩ := List.mem_map.1 hp
  obtain ⟨j, _, rfl⟩ := List.mem_map.1 hq
  simp only [pieceAt, List.length_take, List.length_drop]
  omega
theorem split_len (t : Int) (s : List UInt8) : (split t s).length = (s.length + 99) / 100 := by simp [split]
theorem split_get {t : Int} {s : List UInt8} {k : Nat} (h : k < (split t s).length) : (split t s)[k] = pieceAt t s k := pieces_get h
theorem pieceAt_s (t : Int) (s : List UInt8) (k : Nat) : (pieceAt t s k).s.length ≤ 100 := by simp only [pieceAt, List.length_take, List.length_drop]; omega
set_option maxHeartbeats 16000000 in
set_option maxRecDepth 100000 in
theorem ChunkNewer_T (a0 b0 : List UInt8) (t0 y0 : Int) (ha0 : a0.length ≤ 140737488351232) (hb0 : b0.length ≤ 140737488351232) : callT Try.prog 3 [.v (.string (bs a0)), .v (.string (bs b0)), i64c t0, i64c y0] ⟨[], []⟩ (fun r h => r = .v (.bool true)) := by
  refine callT_of_body [0, 1, 2, 3, 8, 9, 11, 12, 13, 14, 15, 16, 17, 18, 19, 20, 21, 22, 35, 39, 40, 41, 42, 48, 67, 73, 74, 75, 76, 83, 98] [] Try.func3 rfl (by decide) (by kernel_rfl) rfl ?_
  have hca := Cut_T (a0 ++ [97]) 400 (by decide)
  have hcb := Cut_T (b0 ++ [98]) 400 (by decide)
  have hal : 1 ≤ ((a0 ++ [97]).take 400).length ∧ ((a0 ++ [97]).take 400).length ≤ 400 := by simp; omega
  have hbl : 1 ≤ ((b0 ++ [98]).take 400).length ∧ ((b0 ++ [98]).take 400).length ≤ 400 := by simp; omega
  generalize (a0 ++ [97]).take 400 = a at hca hal
  generalize (b0 ++ [98]).take 400 = b at hcb hbl
  have e1 := i64_and65535 t0
  have e2 := i64_and255 y0
  have e3 : IntKind.i64.wrap (1 + y0 % 256) = 1 + y0 % 256 := i64_id (by omega) (by omega)
  simp [i64c]
  refine ⟨by omega, ?_⟩
  refine callT_eq [] hca ?_
  simp
  refine ⟨by omega, ?_⟩
  refine callT_eq [] hcb ?_
  simp [e1, e2, e3]
  obtain ⟨t, ht, ht0⟩ : ∃ t : Int, t = t0 % 65536 ∧ 0 ≤ t ∧ t ≤ 65535 := ⟨_, rfl, by omega, by omega⟩
  obtain ⟨y, hy, hy0⟩ : ∃ y : Int, y = 1 + y0 % 256 ∧ 1 ≤ y ∧ y ≤ 256 := ⟨_, rfl, by omega, by omega⟩
  rw [← ht, ← hy]
  clear ht hy e1 e2 e3
  refine callT_eq [] Awk11_T ?_
  simp
  refine callT_ex2 [(1, 1001), (3, 36)] GNew_T ?_
  simp [i64c, u64c]
  intro w0 v36
  have hsa := Split_T t a (by omega)
  simp [i64c] at hsa
  refine callT_eq [] hsa ?_
  simp
  have hN := split_len t a
  have hat := fun k (h : k < (split t a).length) => rowQ_at h
  simp only [fun k (h : k < (split t a).length) => split_get h] at hat
  have hpt := fun k (h : k < (split t a).length) => put_gS (G := ⟨0, 0, 0, false, []⟩) (t := t) (s := a) (k := k) (.inl rfl) (by omega) (by omega) (by omega)
  have hwa := whole_gP (t := t) (s := a) hal.1
  have hN1 : 1 ≤ (split t a).length ∧ (split t a).length ≤ 4 := by omega
  rw [← hN] at hwa
  generalize hAL : split t a = A at *
  generalize hAn : A.length = N at *
  have hRl : (rowQ A).length = N * 5 := by rw [rowQ_length, hAn]
  refine loopT_of (Nat × Nat) (fun x => x.1 ≤ N) (fun x => ⟨[(0, .v (.string (bs a))), (1, .v (.string (bs b))), (2, i64c t), (3, i64c y), (9, .at 36 v36 0), (39, .isl (rowQ A) N), (40, i64c N), (41, i64c x.1)], gatH 36 1001 v36 x.2 (gS ⟨0, 0, 0, false, []⟩ t a x.1)⟩) (fun x => N - x.1) (0, w0) (by simp) (by simp [i64c]) (by simp [gatH, Gth.cells, gS, i64c, u64c]) ?_
  rintro ⟨k, w⟩ hk
  simp only at hk ⊢
  by_cases g : k < N
  · have hak := hat k g
    have hP := fun w => GPut_T v36 w (gS ⟨0, 0, 0, false, []⟩ t a k) (pieceAt t a k) (by have := pieceAt_s t a k; omega)
    rw [hpt k g] at hP
    have e1 : IntKind.i64.wrap ((k : Int) + 1) = ((k + 1 : Nat) : Int) := by rw [i64_id (by omega) (by omega)]; rfl
    have g' : (k : Int) < N := by omega
    simp only [gatH, Gth.cells] at hP ⊢
    simp [i64c, u64c, g, g', hak, hRl]
    intro v11
    refine callT_ex [(1000, 36), (1001, 1001)] (hP w) ?_
    simp [Pcs.cells, i64c, u64c]
    intro w2
    exact SLx.again (k + 1, w2) (by simp only; omega) (by simp only; omega) (by simp [e1]) (by simp [i64c, u64c])
  have : k = N := by omega
  subst this
  have hgs : gS ⟨0, 0, 0, false, []⟩ t a k = gP t a k := by unfold gS; rw [if_neg (by omega)]
  rw [hgs]
  have hW := GWhole_T v36 w (gP t a k) (by simp only [gP]; omega) (pieces_s t a k) (sumOf_lt a)
  rw [hwa] at hW
  simp only [gatH, Gth.cells] at hW ⊢
  simp [i64c, u64c] at hW
  simp [i64c, u64c]
  refine callT_eq [(1000, 36), (1001, 1001)] hW ?_
  have e2 : IntKind.i64.wrap (t + y) = t + y := i64_id (by omega) (by omega)
  have hsb := Split_T (t + y) b (by omega)
  simp [i64c] at hsb
  simp [e2]
  refine callT_eq [] hsb ?_
  simp
  have hM := split_len (t + y) b
  have hat2 := fun k (h : k < (split (t + y) b).length) => rowQ_at h
  simp only [fun k (h : k < (split (t + y) b).length) => split_get h] at hat2
  have hpt2 := fun j (h : j < (split (t + y) b).length) => put_gS (G := gP t a k) (t := t + y) (s := b) (k := j) (.inr (by show t < t + y; omega)) (by omega) (by omega) (by omega)
  have hwb := whole_gP (t := t + y) (s := b) hbl.1
  have hM1 : 1 ≤ (split (t + y) b).length ∧ (split (t + y) b).length ≤ 4 := by omega
  have hpl := pcN_len b
  rw [← hM] at hwb hpl
  have hold := put_gP_old (t := t) (u := t + y) (a := a) (b := b) (j := 0) (k := (split (t + y) b).length) (by omega) (by omega) (by omega) (by omega)
  have hthere := put_gP_there (t := t + y) (a := b) (j := 0) (k := (split (t + y) b).length) (by omega) (by omega) (by omega) (by omega)
  generalize hBL : split (t + y) b = B at *
  generalize hBn : B.length = M at *
  have hRl2 : (rowQ B).length = M * 5 := by rw [rowQ_length, hBn]
  have hGb : (gP t a k).b ≤ 65536 := by simp only [gP]; omega
  have hab := hat 0 (by omega)
  refine loopT_of (Nat × Nat) (fun x => x.1 ≤ M) (fun x => ⟨[(0, .v (.string (bs a))), (1, .v (.string (bs b))), (2, i64c t), (3, i64c y), (9, .at 36 v36 0), (15, .isl (rowQ B) M), (73, .isl (rowQ B) M), (74, i64c M), (75, i64c x.1)], gatH 36 1001 v36 x.2 (gS (gP t a k) (t + y) b x.1)⟩) (fun x => M - x.1) (0, w) (by simp) (by simp [i64c]) (by simp [gatH, Gth.cells, gS, i64c, u64c]) ?_
  rintro ⟨j, w3⟩ hj
  simp only at hj ⊢
  by_cases g2 : j < M
  · have hak := hat2 j g2
    have hP := fun w => GPut_T v36 w (gS (gP t a k) (t + y) b j) (pieceAt (t + y) b j) (by have := pieceAt_s (t + y) b j; omega)
    rw [hpt2 j g2] at hP
    have e1 : IntKind.i64.wrap ((j : Int) + 1) = ((j + 1 : Nat) : Int) := by rw [i64_id (by omega) (by omega)]; rfl
    have hgs2 : gS (gP t a k) (t + y) b (j + 1) = gP (t + y) b (j + 1) := by unfold gS; rw [if_neg (by omega)]
    have hH := fun w => GHave_T v36 w (gP (t + y) b (j + 1)) (by simp only [gP]; omega)
    have hHm : (gP (t + y) b (j + 1)).m.length = j + 1 := by simp [gP, nsOf]
    have hHb : pcN (gP (t + y) b (j + 1)).b = M := hpl
    have hHg : (gP (t + y) b (j + 1)).g = true := rfl
    rw [hHm, hHb, hHg] at hH
    rw [hgs2] at hP
    have g' : (j : Int) < M := by omega
    simp only [gatH, Gth.cells] at hP hH ⊢
    simp [i64c, u64c] at hH
    simp [i64c, u64c, g2, g', hak, hRl2]
    intro v17
    refine callT_ex [(1000, 36), (1001, 1001)] (hP w3) ?_
    simp [Pcs.cells, i64c, u64c]
    intro w4
    refine callT_eq [(1000, 36), (1001, 1001)] (hH w4) ?_
    simp [e1]
    exact SLx.again (j + 1, w4) (by simp only; omega) (by simp only; omega) (by simp [e1]) (by simp [hgs2, i64c, u64c])
  have : j = M := by omega
  subst this
  have hgs2 : gS (gP t a k) (t + y) b j = gP (t + y) b j := by unfold gS; rw [if_neg (by omega)]
  rw [hgs2]
  have hW2 := GWhole_T v36 w3 (gP (t + y) b j) (by simp only [gP]; omega) (pieces_s (t + y) b j) (sumOf_lt b)
  rw [hwb] at hW2
  have hPo := GPut_T v36 w3 (gP (t + y) b j) (pieceAt t a 0) (by have := pieceAt_s t a 0; omega)
  rw [hold] at hPo
  have hPt := fun w => GPut_T v36 w (gP (t + y) b j) (pieceAt (t + y) b 0) (by have := pieceAt_s (t + y) b 0; omega)
  rw [hthere] at hPt
  have hab2 := hat2 0 (by omega)
  simp only [Nat.zero_mul, List.drop_zero] at hab hab2
  have q1 : List.take 5 (rowQ A) = (pieceAt t a 0).cells := by rw [hab]; rfl
  have q2 : List.take 5 (rowQ B) = (pieceAt (t + y) b 0).cells := by rw [hab2]; rfl
  clear hab hab2
  simp only [gatH, Gth.cells] at hW2 hPo hPt ⊢
  simp [i64c, u64c] at hW2
  simp [i64c, u64c]
  refine callT_eq [(1000, 36), (1001, 1001)] hW2 ?_
  simp [e2]
  refine callT_eq [] hsa ?_
  simp [q1, hRl, Pcs.cells, i64c, u64c]
  refine ⟨by omega, by omega, ?_⟩
  refine callT_ex [(1000, 36), (1001, 1001)] hPo ?_
  simp [q2, hRl2, Pcs.cells, i64c, u64c]
  refine fun w5 => ⟨by omega, by omega, ?_⟩
  refine callT_ex [(1000, 36), (1001, 1001)] (hPt w5) ?_
  simp [Pcs.cells, i64c, u64c]
end Go.Proofs.Ytijgbinkdjekoaa.TL
