/- The law WorldChecks, walked. -/
import Derived.Test.YtgkhedmjkahclaaUWChk
namespace Go.Proofs.Ytgkhedmjkahclaa.TL
open Go
set_option linter.unusedVariables false
set_option linter.unusedSimpArgs false

def plyN (ps : List Int) (L : List (List Ord)) (k : Nat) : Ply := ⟨ps[k]?.getD 0, (L[k]?.getD []).take 9⟩
def plyK (ps : List Int) (L : List (List Ord)) (n : Nat) : List Ply := (List.range n).map (plyN ps L)
@[simp] theorem plyK_len (ps : List Int) (L : List (List Ord)) (n : Nat) : (plyK ps L n).length = n := by simp [plyK]
theorem plyK_snoc (ps : List Int) (L : List (List Ord)) (n : Nat) : plyK ps L (n + 1) = plyK ps L n ++ [plyN ps L n] := by simp [plyK, List.range_succ]
theorem i64cs_at {ps : List Int} {k : Nat} (h : k < ps.length) : List.drop k (ps.map i64c) = i64c ps[k] :: List.drop (k + 1) (ps.map i64c) := by
  rw [List.drop_eq_getElem_cons (by simpa using h)]; simp
def DoneJ (a b k : Nat) (d : Bool) : Prop := d = true ↔ ¬ (k < a ∧ k < b ∧ k < 6)
def wdG (seed : Nat) : Wd := wd0 seed

set_option maxHeartbeats 8000000 in
set_option maxRecDepth 100000 in
theorem WorldChecks_T (ps : List Int) (L : List (List Ord)) (hp : ps.length ≤ 140737488351232) (hL : L.length ≤ 140737488351232) : callT Try.prog 3 [.isl (ps.map i64c) ps.length, .isl (rowB L) L.length] ⟨[], []⟩ (fun r h => r = .v (.bool true)) := by
  refine callT_of_body [0, 1, 4, 5, 6, 7, 8, 9, 10, 11, 12, 14, 21, 35, 44] [] Try.func3 rfl (by decide) (by kernel_rfl) rfl ?_
  have hN := WNew_T gameI (by decide) 9 chk_game
  simp only [u64c] at hN
  have hGm := Game_T
  simp
  refine callT_eq [] Awk10_T ?_
  simp
  refine callT_eq [] hGm ?_
  simp
  refine callT_exa [(2001, 2001), (2002, 2002), (2003, 2003), (2004, 2004), (2005, 2005), (2006, 2006)] hN ?_
  simp [i64c, i64v]
  refine ⟨by decide, fun V u => ?_⟩
  obtain ⟨W, hW⟩ : ∃ W, W = wd0 9 := ⟨_, rfl⟩
  rw [← hW]
  have hok : W.Ok 0 := hW ▸ wd0_ok 9
  have hR : W.R := hW ▸ wd0_R (by decide)
  refine ⟨Nat × Nat × Nat × Bool, fun x => x.1 ≤ ps.length ∧ x.1 ≤ L.length ∧ x.1 ≤ 6 ∧ DoneJ ps.length L.length x.1 x.2.2.2,
    fun x => match x.2.2.2 with
      | false => ⟨[(0, .isl (ps.map i64c) ps.length), (1, .isl (rowB L) L.length), (5, .at 2001 V.w 0), (7, .sl 55 x.2.1 0 x.1), (8, .sl 65 x.2.2.1 0 x.1), (9, i64c x.1)], wdH V u gameI W ++ [(55, x.2.1, ⟨2, rowP (plyK ps L x.1)⟩), (65, x.2.2.1, ⟨2, rowP (plyK ps L x.1)⟩)]⟩
      | true => ⟨[(0, .isl (ps.map i64c) ps.length), (1, .isl (rowB L) L.length), (5, .at 2001 V.w 0), (7, .isl (rowP (plyK ps L x.1)) x.1), (8, .isl (rowP (plyK ps L x.1)) x.1), (9, i64c x.1)], wdH V u gameI W⟩, fun x => 6 - x.1, ?_, ?_⟩
  · by_cases gd : 0 < ps.length ∧ 0 < L.length ∧ 0 < 6
    · refine SLx.nil 7 55 2 (by decide) (by simp) fun u1 => SLx.nil 8 65 2 (by decide) (by simp) fun u2 => SLx.fin _ ⟨(0, u1, u2, false), ⟨by simp, by simp, by simp, ⟨nofun, fun h => absurd gd h⟩⟩, rfl⟩ (by simp [i64c]) (by simp [i64v, plyK])
    · refine SLx.nil 7 55 2 (by decide) (by simp) fun u1 => SLx.nil 8 65 2 (by decide) (by simp) fun u2 => SLx.frz 55 rfl (SLx.frz 65 rfl (SLx.fin _ ⟨(0, u1, u2, true), ⟨by simp, by simp, by simp, ⟨fun _ => gd, fun _ => rfl⟩⟩, rfl⟩ (by simp [i64c, plyK]) (by simp [i64v, plyK])))
  rintro ⟨k, u1, u2, d⟩ ⟨h1, h2, h3, hd⟩
  simp only at h1 h2 h3 hd ⊢
  cases d with
  | false =>
    obtain ⟨g1, g2, g3⟩ : k < ps.length ∧ k < L.length ∧ k < 6 := Classical.byContradiction fun h => by simpa using hd.2 h
    have g1' : (k : Int) < ps.length := by omega
    have g2' : (k : Int) < L.length := by omega
    have g3' : (k : Int) < 6 := by omega
    have e1 : IntKind.i64.wrap ((k : Int) + 1) = ((k + 1 : Nat) : Int) := by rw [i64_id (by omega) (by omega)]; rfl
    have hat := i64cs_at g1
    have hatL := rowB_at g2
    have hn : plyN ps L k = ⟨ps[k], L[k].take 9⟩ := by simp [plyN, g1, g2]
    have htk : List.take (k * 2) (rowP (plyK ps L k)) = rowP (plyK ps L k) := List.take_of_length_le (by simp)
    simp only [i64c] at hat
    by_cases g9 : 9 < L[k].length
    · have g9' : 9 < (L[k].length : Int) := by omega
      have ht9 : (L[k].take 9).length = 9 := by simp; omega
      have e9 : List.take 36 (rowC L[k]) = rowC (L[k].take 9) := rowC_take 9 L[k]
      have hTo := Told9_T (L[k].take 9) (by omega)
      rw [ht9] at hTo
      simp [i64c, i64v, g1, g2, g3, g1', g2', g3', hat, hatL, g9, g9', e9]
      refine ⟨by omega, fun v54 => ⟨by omega, by omega, fun u1' => ?_⟩⟩
      refine draw_g [0, 1, 2, 3, 4, 5, 6, 7, 8] 9 [(6, [5])] (by kernel_rfl) (by kernel_rfl) (by kernel_rfl) ?_
      simp [i64c, i64v, g1, g2, g3, g1', g2', g3', hat, hatL]
      refine callT_eq [] hTo ?_
      simp [i64c, i64v]
      refine ⟨⟨g1, hat⟩, by omega, by omega, fun u2' => ?_⟩
      have htk2 : ∀ a b : TV, List.take ((k + 1) * 2) (rowP (plyK ps L k) ++ [a, b]) = rowP (plyK ps L k) ++ [a, b] := fun a b => List.take_of_length_le (by simp; omega)
      by_cases gd : k + 1 < ps.length ∧ k + 1 < L.length ∧ k + 1 < 6
      · exact SLx.again (k + 1, u1', u2', false) ⟨by simp only; omega, by simp only; omega, by simp only; omega, ⟨nofun, fun h => absurd gd h⟩⟩ (by simp only; omega) (by simp [e1, i64c]) (by simp [i64v, i64c, plyK_snoc, rowP_snoc, htk, hn, Ply.cells, ht9])
      · refine SLx.frz 55 rfl (SLx.frz 65 rfl (SLx.again (k + 1, u1', u2', true) ⟨by simp only; omega, by simp only; omega, by simp only; omega, ⟨fun _ => gd, fun _ => rfl⟩⟩ (by simp only; omega) (by simp [e1, i64c, plyK_snoc, rowP_snoc, htk, htk2, hn, Ply.cells, ht9]) (by simp [i64v, i64c, plyK_snoc, rowP_snoc, htk, hn, Ply.cells, ht9])))
    · have g9' : ¬ 9 < (L[k].length : Int) := by omega
      have ht9 : L[k].take 9 = L[k] := List.take_of_length_le (by omega)
      have hTo := Told9_T L[k] (by omega)
      simp [i64c, i64v, g1, g2, g3, g1', g2', g3', hat, hatL, g9, g9']
      refine fun v54 => ⟨by omega, by omega, fun u1' => ?_⟩
      refine draw_g [0, 1, 2, 3, 4, 5, 6, 7, 8] 9 [(6, [5])] (by kernel_rfl) (by kernel_rfl) (by kernel_rfl) ?_
      simp [i64c, i64v, g1, g2, g3, g1', g2', g3', hat, hatL]
      refine callT_eq [] hTo ?_
      simp [i64c, i64v]
      refine ⟨⟨g1, hat⟩, by omega, by omega, fun u2' => ?_⟩
      have htk2 : ∀ a b : TV, List.take ((k + 1) * 2) (rowP (plyK ps L k) ++ [a, b]) = rowP (plyK ps L k) ++ [a, b] := fun a b => List.take_of_length_le (by simp; omega)
      by_cases gd : k + 1 < ps.length ∧ k + 1 < L.length ∧ k + 1 < 6
      · exact SLx.again (k + 1, u1', u2', false) ⟨by simp only; omega, by simp only; omega, by simp only; omega, ⟨nofun, fun h => absurd gd h⟩⟩ (by simp only; omega) (by simp [e1, i64c]) (by simp [i64v, i64c, plyK_snoc, rowP_snoc, htk, hn, Ply.cells, ht9])
      · refine SLx.frz 55 rfl (SLx.frz 65 rfl (SLx.again (k + 1, u1', u2', true) ⟨by simp only; omega, by simp only; omega, by simp only; omega, ⟨fun _ => gd, fun _ => rfl⟩⟩ (by simp only; omega) (by simp [e1, i64c, plyK_snoc, rowP_snoc, htk, htk2, hn, Ply.cells, ht9]) (by simp [i64v, i64c, plyK_snoc, rowP_snoc, htk, hn, Ply.cells, ht9])))
  | true =>
    have hnd := hd.1 rfl
    obtain ⟨pl, hpl⟩ : ∃ pl, pl = plyK ps L k := ⟨_, rfl⟩
    have hpk : pl.length = k := by rw [hpl]; simp
    have hb9 : ∀ q ∈ pl, q.b.length ≤ 1000000 := fun q hq => by
      rw [hpl] at hq
      simp only [plyK, List.mem_map] at hq
      obtain ⟨j, -, rfl⟩ := hq
      simp [plyN]
      omega
    have hT := WText_T V u gameI W 0 hok (by decide) hR
    have hP := Play_T V u gameI W pl 0 img_game hok (by decide) (by omega) hb9
    have hC := WChk_T pl (by omega) hb9
    have hCR := RChk10_T pl (by omega)
    have hok2 : (W.play gameI pl).1.Ok (0 + 1000000 * pl.length + 2) := play_ok img_game hok pl hb9
    have hR2 : (W.play gameI pl).1.R := play_R noput_game hR pl
    have hT2 := fun u2 => WText_T V u2 gameI (W.play gameI pl).1 _ hok2 (by omega) hR2
    have hpe : (W.play gameI pl).2 = wchk pl := by
      unfold Wd.play
      split
      · rename_i h0; exact h0.symm
      · rfl
    have hsame : wchk pl ≠ 0 → (W.play gameI pl).1 = W := fun h => by unfold Wd.play; rw [if_neg h]
    rw [hpk] at hP hC hCR
    rw [hpe] at hP
    simp only [← hpl]
    simp only [i64c] at hC hCR hP
    generalize (W.play gameI pl).1 = W2 at hT2 hok2 hR2 hsame hP
    by_cases g1 : k < ps.length
    · have g1' : (k : Int) < ps.length := by omega
      by_cases g2 : k < L.length
      · have g2' : (k : Int) < L.length := by omega
        have g3' : ¬ (k : Int) < 6 := fun h => hnd ⟨g1, g2, by omega⟩
        simp [i64c, i64v, g1, g1', g2, g2', g3', -Int.not_lt]
        refine callT_eq [(2001, 2001), (2002, 2002), (2003, 2003), (2004, 2004), (2005, 2005), (2006, 2006)] hT ?_
        simp [i64v]
        refine callT_ex [(2001, 2001), (2002, 2002), (2003, 2003), (2004, 2004), (2005, 2005), (2006, 2006)] hP ?_
        simp [i64v]
        intro u2
        refine callT_eq [] hCR ?_
        simp
        refine callT_eq [] hC ?_
        by_cases hw : wchk pl = 0
        · simp [hw]
        · simp [hw]
          have hT3 := hT2 u2
          rw [hsame hw] at hT3 ⊢
          refine callT_eq [(2001, 2001), (2002, 2002), (2003, 2003), (2004, 2004), (2005, 2005), (2006, 2006)] hT3 ?_
          simp [i64v]
      · have g2' : ¬ (k : Int) < L.length := by omega
        simp [i64c, i64v, g1, g1', g2, g2', -Int.not_lt]
        refine callT_eq [(2001, 2001), (2002, 2002), (2003, 2003), (2004, 2004), (2005, 2005), (2006, 2006)] hT ?_
        simp [i64v]
        refine callT_ex [(2001, 2001), (2002, 2002), (2003, 2003), (2004, 2004), (2005, 2005), (2006, 2006)] hP ?_
        simp [i64v]
        intro u2
        refine callT_eq [] hCR ?_
        simp
        refine callT_eq [] hC ?_
        by_cases hw : wchk pl = 0
        · simp [hw]
        · simp [hw]
          have hT3 := hT2 u2
          rw [hsame hw] at hT3 ⊢
          refine callT_eq [(2001, 2001), (2002, 2002), (2003, 2003), (2004, 2004), (2005, 2005), (2006, 2006)] hT3 ?_
          simp [i64v]
    · have g1' : ¬ (k : Int) < ps.length := by omega
      simp [i64c, i64v, g1, g1', -Int.not_lt]
      refine callT_eq [(2001, 2001), (2002, 2002), (2003, 2003), (2004, 2004), (2005, 2005), (2006, 2006)] hT ?_
      simp [i64v]
      refine callT_ex [(2001, 2001), (2002, 2002), (2003, 2003), (2004, 2004), (2005, 2005), (2006, 2006)] hP ?_
      simp [i64v]
      intro u2
      refine callT_eq [] hCR ?_
      simp
      refine callT_eq [] hC ?_
      by_cases hw : wchk pl = 0
      · simp [hw]
      · simp [hw]
        have hT3 := hT2 u2
        rw [hsame hw] at hT3 ⊢
        refine callT_eq [(2001, 2001), (2002, 2002), (2003, 2003), (2004, 2004), (2005, 2005), (2006, 2006)] hT3 ?_
        simp [i64v]
end Go.Proofs.Ytgkhedmjkahclaa.TL
