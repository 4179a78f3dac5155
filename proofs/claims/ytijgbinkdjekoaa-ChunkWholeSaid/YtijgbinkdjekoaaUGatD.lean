/- The law ChunkWhole, as the code runs. -/
import Derived.Test.YtijgbinkdjekoaaUGatC
namespace Go.Proofs.Ytijgbinkdjekoaa.TL
open Go
set_option linter.unusedVariables false
set_option linter.unusedSimpArgs false

def clH (t : Int) (s : List UInt8) (v1 v2 v3 v4 v5 vG w wS : Nat) (G : Gth) (M : List (Int × Int)) : Heap :=
  [(1001, v1, ⟨0, [.at 1006 vG 0]⟩), (1002, v2, ⟨0, [.isl (rowQ (split t s)) (split t s).length]⟩), (1003, v3, ⟨0, [.mp 1008 wS]⟩), (1004, v4, ⟨0, [.v (.string (bs s))]⟩), (1005, v5, ⟨0, [i64c t]⟩),
   (1006, vG, ⟨0, G.cells 1007 w⟩), (1007, w, ⟨0, mapC .i64 strT G.m⟩), (1008, wS, ⟨0, mapC .i64 i64c M⟩)]
@[simp] theorem renL_ints (τ : Nat → Option Nat) (M : List (Int × Int)) : renL τ (mapC .i64 i64c M) = mapC .i64 i64c M := renL_mapC (fun _ => rfl) M
@[simp] theorem okL_ints (m : Nat → Prop) (M : List (Int × Int)) : okL m (mapC .i64 i64c M) := okL_mapC (fun n => by simp [i64c, okT]) M
theorem getD_i64c (o : Option Int) : (Option.map i64c o).getD (.v (.int .i64 0)) = .v (.int .i64 (o.getD 0)) := by cases o <;> rfl
set_option maxHeartbeats 8000000 in
set_option maxRecDepth 100000 in
theorem Cl_T (t : Int) (s : List UInt8) (k n : Nat) (ks : List Nat) (M : List (Int × Int)) (v1 v2 v3 v4 v5 vG w wS : Nat) (ht : 0 ≤ t ∧ t ≤ 65535) (hs : 1 ≤ s.length ∧ s.length ≤ 1200) (hk : k < (s.length + 99) / 100) (hI : KI ((s.length + 99) / 100) n ks M) (hn : n ≤ 1000000) :
    callT Try.prog 22 [i64c k, .at 1001 v1 0, .at 1002 v2 0, .at 1003 v3 0, .at 1004 v4 0, .at 1005 v5 0] ⟨[], clH t s v1 v2 v3 v4 v5 vG w wS (gK t s ks) M⟩ (fun r h => ∃ w', r = .v (.bool true) ∧ h = clH t s v1 v2 v3 v4 v5 vG w' wS (gK t s (kPut ks k)) (mPut M k)) := by
  refine callT_of_body [0, 1, 2, 3, 4, 5, 7, 8, 9, 10, 11, 44] [1001, 1002, 1003, 1004, 1005, 1006, 1007, 1008] Try.func22 rfl (by decide) (by kernel_rfl) rfl ?_
  have hlen := split_len t s
  have hk' : k < (split t s).length := by omega
  have hat := rowQ_at hk'
  rw [split_get hk'] at hat
  have hRl : (rowQ (split t s)).length = (split t s).length * 5 := rowQ_length _
  have hput := gK_put (t := t) (s := s) (ks := ks) (k := k) (by omega) (by omega) hk
  have hI2 := hI.put hk
  have hne : kPut ks k ≠ [] := by
    unfold kPut
    split
    · rename_i hin; intro hh; rw [hh] at hin; cases hin
    · simp
  have hwh := gK_whole (t := t) (s := s) hs.1 hI2.nd hI2.lt hne
  have hP := GPut_T vG w (gK t s ks) (pieceAt t s k) (by have := pieceAt_s t s k; omega)
  rw [hput] at hP
  have hGe : gK t s (kPut ks k) = ⟨t, s.length, sumOf s, true, nsOf ((kPut ks k).map (pieceAt t s))⟩ := by unfold gK; rw [if_neg hne]
  have hW := fun w => GWhole_T vG w (gK t s (kPut ks k)) (by rw [hGe]; simp only; omega) (by
    rw [hGe]; intro p hp
    obtain ⟨q, hq, rfl⟩ := List.mem_map.1 hp
    obtain ⟨j, _, rfl⟩ := List.mem_map.1 hq
    exact pieceAt_s t s j) (by rw [hGe]; exact sumOf_lt s)
  rw [hwh] at hW
  have hcnt := hI.cnt k
  have hno := hI.no k
  have hl2 := hI2.len
  have e1 : IntKind.i64.wrap ((lkp (k : Int) M).getD 0 + 1) = (lkp (k : Int) M).getD 0 + 1 := i64_id (by omega) (by omega)
  have hmp : mput .i64 (k : Int) (.v (.int .i64 ((lkp (k : Int) M).getD 0 + 1))) (mapC .i64 i64c M) = mapC .i64 i64c (mPut M k) := mput_mapC (g := i64c) (x := .v (.int .i64 ((lkp (k : Int) M).getD 0 + 1))) (k : Int) ((lkp (k : Int) M).getD 0 + 1) rfl M
  have hlk : lkp (k : Int) (mPut M k) = some ((lkp (k : Int) M).getD 0 + 1) := by unfold mPut; rw [lkp_ins, if_pos rfl]
  have hone : ((lkp (k : Int) M).getD 0 + 1 = 1) ↔ k ∉ ks := by
    rw [← hno]
    cases hh : lkp (k : Int) M with
    | none => simp
    | some c =>
      have := hI.pos _ (lkp_mem hh)
      simp at this ⊢
      omega
  rw [← hlen] at hwh hW
  unfold clH
  generalize split t s = A at *
  generalize gK t s ks = G at *
  generalize gK t s (kPut ks k) = G' at *
  generalize (kPut ks k).length = K at *
  generalize pieceAt t s k = p at *
  generalize mPut M k = M' at *
  simp only [gatH, Gth.cells] at hP hW
  simp [Gth.cells, i64c, u64c]
  refine draw_g [0, 1, 2, 3, 4] 5 [] (by kernel_rfl) (by kernel_rfl) (by kernel_rfl) ?_
  simp [hat, hRl, i64c, u64c]
  refine ⟨hk', ?_⟩
  refine callT_ex [(1000, 1006), (1001, 1007)] hP ?_
  simp [Pcs.cells, i64c, u64c, getD_i64c, e1, hmp]
  intro w2
  by_cases hf : K = A.length
  · rw [if_pos hf] at hW
    simp [i64c, u64c] at hW
    refine callT_eq [(1000, 1006), (1001, 1007)] (hW w2) ?_
    by_cases hin : k ∈ ks
    · have hone2 : ¬ ((lkp (k : Int) M).getD 0 + 1 = 1) := fun hh => (hone.1 hh) hin
      simp [hin, hlk, hone2, i64c]
      omega
    · have hone2 := hone.2 hin
      simp [hin, hlk, hone2, i64c]
      omega
  · rw [if_neg hf] at hW
    simp [i64c, u64c] at hW
    refine callT_eq [(1000, 1006), (1001, 1007)] (hW w2) ?_
    have hf' : ¬ (K : Int) = A.length := by omega
    by_cases hin : k ∈ ks
    · have hone2 : ¬ ((lkp (k : Int) M).getD 0 + 1 = 1) := fun hh => (hone.1 hh) hin
      simp [hin, hlk, hone2, i64c]
      omega
    · have hone2 := hone.2 hin
      simp [hin, hlk, hone2, i64c]
      omega
theorem missL_none {m : List (Int × List UInt8)} {most : Int} : ∀ n, (∀ k : Nat, k < n → lkp (k : Int) m ≠ none) → missL m most n = []
  | 0, _ => rfl
  | n + 1, h => by
    rw [missL, missL_none n (fun k hk => h k (by omega)), if_neg (fun hh => h n (by omega) hh.2)]
theorem kPut_mem {ks : List Nat} {k j : Nat} : j ∈ kPut ks k ↔ j ∈ ks ∨ j = k := by
  unfold kPut
  split
  · rename_i h
    constructor
    · exact .inl
    · rintro (h1 | rfl)
      · exact h1
      · exact h
  · simp
set_option maxHeartbeats 16000000 in
set_option maxRecDepth 100000 in
theorem ChunkWhole_T (s0 : List UInt8) (t0 : Int) (os : List Int) (hs0 : s0.length ≤ 140737488351232) (hol : os.length ≤ 140737488351232) : callT Try.prog 5 [.v (.string (bs s0)), i64c t0, .isl (os.map i64c) os.length] ⟨[], []⟩ (fun r h => r = .v (.bool true)) := by
  refine callT_of_body [0, 1, 2, 3, 4, 6, 7, 8, 9, 10, 11, 12, 19, 33, 46, 48, 49, 50, 55] [] Try.func5 rfl (by decide) (by kernel_rfl) rfl ?_
  have hcs := Cut_T (s0 ++ [33]) 1200 (by decide)
  have hs : 1 ≤ ((s0 ++ [33]).take 1200).length ∧ ((s0 ++ [33]).take 1200).length ≤ 1200 := by simp; omega
  generalize (s0 ++ [33]).take 1200 = s at hcs hs
  have e1 := i64_and65535 t0
  simp [i64c]
  intro v3 v4
  refine ⟨by omega, ?_⟩
  refine callT_eq [] hcs ?_
  simp [e1]
  obtain ⟨t, htt, ht0⟩ : ∃ t : Int, t = t0 % 65536 ∧ 0 ≤ t ∧ t ≤ 65535 := ⟨_, rfl, by omega, by omega⟩
  rw [← htt]
  clear htt e1
  refine callT_eq [] Awk11_T ?_
  simp
  have hsp := Split_T t s (by omega)
  simp [i64c] at hsp
  refine callT_eq [] hsp ?_
  simp
  intro v7
  refine callT_ex2 [(1, 1007), (3, 23)] GNew_T ?_
  simp [i64c, u64c]
  intro w0 v23 v8 v24 v9
  have hlen := split_len t s
  have hN1 : 1 ≤ (split t s).length ∧ (split t s).length ≤ 12 := by omega
  have hclo := fun (k n : Nat) ks M w (hk : k < (s.length + 99) / 100) (hI : KI ((s.length + 99) / 100) n ks M) (hn : n ≤ 1000000) => Cl_T t s k n ks M v8 v7 v9 v3 v4 v23 w v24 ht0 hs hk hI hn
  have hgKe : ∀ ks, ks ≠ [] → gK t s ks = ⟨t, s.length, sumOf s, true, nsOf (ks.map (pieceAt t s))⟩ := fun ks h => by unfold gK; rw [if_neg h]
  have hbl := pcN_len s
  have hmiss := fun ks (h0 : ks ≠ []) (hall : ∀ j, j < (s.length + 99) / 100 → j ∈ ks) => missL_none (m := nsOf (ks.map (pieceAt t s))) (most := 9) ((s.length + 99) / 100) (fun k hk => by rw [lkp_gK, if_pos (hall k hk)]; simp)
  rw [← hlen] at hclo hbl hmiss
  unfold clH at hclo
  generalize split t s = A at *
  generalize hAn : A.length = N at *
  refine loopT_of (Nat × List Nat × List (Int × Int) × Nat) (fun x => x.1 ≤ os.length ∧ x.1 ≤ 40 ∧ KI N x.1 x.2.1 x.2.2.1) (fun x => ⟨[(2, .isl (os.map i64c) os.length), (7, .at 7 v7 0), (8, .at 8 v8 0), (9, .at 9 v9 0), (10, .fn (.func 22) [.at 8 v8 0, .at 7 v7 0, .at 9 v9 0, .at 3 v3 0, .at 4 v4 0]), (11, i64c x.1)], [(8, v8, ⟨0, [.at 23 v23 0]⟩), (7, v7, ⟨0, [.isl (rowQ A) N]⟩), (9, v9, ⟨0, [.mp 24 v24]⟩), (3, v3, ⟨0, [.v (.string (bs s))]⟩), (4, v4, ⟨0, [i64c t]⟩), (23, v23, ⟨0, (gK t s x.2.1).cells 1007 x.2.2.2⟩), (1007, x.2.2.2, ⟨0, mapC .i64 strT (gK t s x.2.1).m⟩), (24, v24, ⟨0, mapC .i64 i64c x.2.2.1⟩)]⟩) (fun x => 40 - x.1) (0, [], [], w0) ⟨by simp, by simp, ⟨List.nodup_nil, by simp, rfl, by simp⟩⟩ (by simp [i64c]) (by simp [Gth.cells, gK, i64c, u64c]; rfl) ?_
  rintro ⟨i, ks, M, w⟩ ⟨hi1, hi2, hI⟩
  simp only at hi1 hi2 hI ⊢
  by_cases g1 : i < os.length
  · by_cases g2 : i < 40
    · have g1' : (i : Int) < os.length := by omega
      have g2' : (i : Int) < 40 := by omega
      have ew : IntKind.i64.wrap ((i : Int) + 1) = ((i + 1 : Nat) : Int) := by rw [i64_id (by omega) (by omega)]; rfl
      have hat : List.drop i (os.map i64c) = .v (.int .i64 os[i]) :: List.drop (i + 1) (os.map i64c) := by rw [List.drop_eq_getElem_cons (by simpa using g1)]; simp [i64c]
      have ea := i64_and255 os[i]
      obtain ⟨m, hm1, hm2⟩ : ∃ m : Nat, (os[i] % 256).tmod (N : Int) = m ∧ m < N := by
        refine ⟨((os[i] % 256).tmod (N : Int)).toNat, ?_, ?_⟩
        · rw [Int.tmod_eq_emod_of_nonneg (by omega)]
          have := Int.emod_nonneg (os[i] % 256) (show (N : Int) ≠ 0 by omega)
          omega
        · rw [Int.tmod_eq_emod_of_nonneg (by omega)]
          have := Int.emod_nonneg (os[i] % 256) (show (N : Int) ≠ 0 by omega)
          have := Int.emod_lt_of_pos (os[i] % 256) (show (0 : Int) < N by omega)
          omega
      have hc := hclo m i ks M w hm2 hI (by omega)
      have hput := hI.put hm2
      have hN0 : ¬ N = 0 := by omega
      simp only [Gth.cells, i64c, u64c] at hc
      simp [Gth.cells, i64c, u64c, g1, g1', g2, g2']
      refine draw_g [0, 1, 2, 3, 4, 5, 6, 7, 8] 9 [] (by kernel_rfl) (by kernel_rfl) (by kernel_rfl) ?_
      simp [hat, ea, hm1, hN0, g1, i64c]
      refine callT_ex [(1001, 8), (1002, 7), (1003, 9), (1004, 3), (1005, 4), (1006, 23), (1007, 1007), (1008, 24)] hc ?_
      simp
      intro w3
      exact SLx.again (i + 1, kPut ks m, mPut M m, w3) ⟨by simp only; omega, by simp only; omega, hput⟩ (by simp only; omega) (by simp [ew]) (by simp [i64c, u64c])
    · have g1' : (i : Int) < os.length := by omega
      have g2' : ¬ (i : Int) < 40 := by omega
      simp [Gth.cells, i64c, u64c, g1, g1', g2, g2']
      refine loopT_of (Nat × List Nat × List (Int × Int) × Nat) (fun x => x.1 ≤ N ∧ KI N (40 + x.1) x.2.1 x.2.2.1 ∧ ∀ j, j < x.1 → j ∈ x.2.1) (fun x => ⟨[(8, .at 8 v8 0), (10, .fn (.func 22) [.at 8 v8 0, .at 7 v7 0, .at 9 v9 0, .at 3 v3 0, .at 4 v4 0]), (48, i64c N), (49, i64c x.1)], [(8, v8, ⟨0, [.at 23 v23 0]⟩), (7, v7, ⟨0, [.isl (rowQ A) N]⟩), (9, v9, ⟨0, [.mp 24 v24]⟩), (3, v3, ⟨0, [.v (.string (bs s))]⟩), (4, v4, ⟨0, [i64c t]⟩), (23, v23, ⟨0, (gK t s x.2.1).cells 1007 x.2.2.2⟩), (1007, x.2.2.2, ⟨0, mapC .i64 strT (gK t s x.2.1).m⟩), (24, v24, ⟨0, mapC .i64 i64c x.2.2.1⟩)]⟩) (fun x => N - x.1) (0, ks, M, w) ⟨by simp, ⟨hI.nd, hI.lt, hI.keys, fun p hp => by have := hI.pos p hp; simp only; omega⟩, by simp⟩ (by simp [i64c]) (by simp [Gth.cells, i64c, u64c]) ?_
      rintro ⟨k, ls, M2, w2⟩ ⟨hk1, hI2, hall⟩
      simp only at hk1 hI2 hall ⊢
      by_cases g3 : k < N
      · have g3' : (k : Int) < N := by omega
        have ew : IntKind.i64.wrap ((k : Int) + 1) = ((k + 1 : Nat) : Int) := by rw [i64_id (by omega) (by omega)]; rfl
        have hc := hclo k (40 + k) ls M2 w2 g3 hI2 (by omega)
        have hput := hI2.put g3
        simp only [Gth.cells, i64c, u64c] at hc
        simp [Gth.cells, i64c, u64c, g3, g3']
        refine callT_ex [(1001, 8), (1002, 7), (1003, 9), (1004, 3), (1005, 4), (1006, 23), (1007, 1007), (1008, 24)] hc ?_
        simp
        intro w3
        exact SLx.again (k + 1, kPut ls k, mPut M2 k, w3) ⟨by simp only; omega, hput, fun j hj => kPut_mem.2 (by simp only at hj; rcases Nat.lt_or_ge j k with h | h; exact .inl (hall j h); exact .inr (by omega))⟩ (by simp only; omega) (by simp [ew]) (by simp [i64c, u64c])
      · have hkN : k = N := by omega
        subst hkN
        have hne : ls ≠ [] := fun hh => by have := hall 0 (by omega); rw [hh] at this; cases this
        have hG := hgKe ls hne
        have hm := GMiss_T v23 w2 (gK t s ls) 9 (by rw [hG]; simp only; omega)
        have hGn : (gK t s ls).n = k := by rw [hG]; simp only [Gth.n, if_true, hbl]; simp
        have hGm : missL (gK t s ls).m 9 (gK t s ls).n = [] := by rw [hGn, hG]; exact hmiss ls hne hall
        rw [hGm] at hm
        simp only [gatH, Gth.cells] at hm
        simp [i64c, u64c] at hm
        simp [Gth.cells, i64c, u64c]
        refine callT_eq [(1000, 23), (1001, 1007)] hm ?_
        simp
  · have g1' : ¬ (i : Int) < os.length := by omega
    simp [Gth.cells, i64c, u64c, g1, g1']
    refine loopT_of (Nat × List Nat × List (Int × Int) × Nat) (fun x => x.1 ≤ N ∧ KI N (40 + x.1) x.2.1 x.2.2.1 ∧ ∀ j, j < x.1 → j ∈ x.2.1) (fun x => ⟨[(8, .at 8 v8 0), (10, .fn (.func 22) [.at 8 v8 0, .at 7 v7 0, .at 9 v9 0, .at 3 v3 0, .at 4 v4 0]), (48, i64c N), (49, i64c x.1)], [(8, v8, ⟨0, [.at 23 v23 0]⟩), (7, v7, ⟨0, [.isl (rowQ A) N]⟩), (9, v9, ⟨0, [.mp 24 v24]⟩), (3, v3, ⟨0, [.v (.string (bs s))]⟩), (4, v4, ⟨0, [i64c t]⟩), (23, v23, ⟨0, (gK t s x.2.1).cells 1007 x.2.2.2⟩), (1007, x.2.2.2, ⟨0, mapC .i64 strT (gK t s x.2.1).m⟩), (24, v24, ⟨0, mapC .i64 i64c x.2.2.1⟩)]⟩) (fun x => N - x.1) (0, ks, M, w) ⟨by simp, ⟨hI.nd, hI.lt, hI.keys, fun p hp => by have := hI.pos p hp; simp only; omega⟩, by simp⟩ (by simp [i64c]) (by simp [Gth.cells, i64c, u64c]) ?_
    rintro ⟨k, ls, M2, w2⟩ ⟨hk1, hI2, hall⟩
    simp only at hk1 hI2 hall ⊢
    by_cases g3 : k < N
    · have g3' : (k : Int) < N := by omega
      have ew : IntKind.i64.wrap ((k : Int) + 1) = ((k + 1 : Nat) : Int) := by rw [i64_id (by omega) (by omega)]; rfl
      have hc := hclo k (40 + k) ls M2 w2 g3 hI2 (by omega)
      have hput := hI2.put g3
      simp only [Gth.cells, i64c, u64c] at hc
      simp [Gth.cells, i64c, u64c, g3, g3']
      refine callT_ex [(1001, 8), (1002, 7), (1003, 9), (1004, 3), (1005, 4), (1006, 23), (1007, 1007), (1008, 24)] hc ?_
      simp
      intro w3
      exact SLx.again (k + 1, kPut ls k, mPut M2 k, w3) ⟨by simp only; omega, hput, fun j hj => kPut_mem.2 (by simp only at hj; rcases Nat.lt_or_ge j k with h | h; exact .inl (hall j h); exact .inr (by omega))⟩ (by simp only; omega) (by simp [ew]) (by simp [i64c, u64c])
    · have hkN : k = N := by omega
      subst hkN
      have hne : ls ≠ [] := fun hh => by have := hall 0 (by omega); rw [hh] at this; cases this
      have hG := hgKe ls hne
      have hm := GMiss_T v23 w2 (gK t s ls) 9 (by rw [hG]; simp only; omega)
      have hGn : (gK t s ls).n = k := by rw [hG]; simp only [Gth.n, if_true, hbl]; simp
      have hGm : missL (gK t s ls).m 9 (gK t s ls).n = [] := by rw [hGn, hG]; exact hmiss ls hne hall
      rw [hGm] at hm
      simp only [gatH, Gth.cells] at hm
      simp [i64c, u64c] at hm
      simp [Gth.cells, i64c, u64c]
      refine callT_eq [(1000, 23), (1001, 1007)] hm ?_
      simp
end Go.Proofs.Ytijgbinkdjekoaa.TL
