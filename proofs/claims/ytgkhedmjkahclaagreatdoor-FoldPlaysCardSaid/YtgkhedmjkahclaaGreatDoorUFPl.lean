/- Folds: the reference's records that are applied, snapshots. -/
import Derived.Test.YtgkhedmjkahclaaGreatDoorUFMay
import Derived.Test.YtgkhedmjkahclaaGreatDoorURosR4
import Derived.Test.YtgkhedmjkahclaaGreatDoorUWChk
namespace Go.Proofs.YtgkhedmjkahclaaGreatDoor.TL
open Go
set_option linter.unusedVariables false
set_option linter.unusedSimpArgs false

def rosK (w : Ros) : List TV := [.isl ((w.all 32).map i64c) (w.all 32).length, i64c w.e]
set_option maxHeartbeats 1000000 in
set_option maxRecDepth 100000 in
theorem RRos20_T (r : Rec) (w : Ros) (hs : w.s < 2 ^ 32) (hr : r.sz) (he : 0 ≤ w.e) (he2 : w.e ≤ 9223372036853775000) : callT Tryz.prog 34 [.agg r.cells, .agg (rosK w)] ⟨[], []⟩ (fun x h => x = .tup [.agg (rosK (r.ros w).1), i64c (r.ros w).2] ∧ h = []) := by
  refine callT_of_body [0, 1, 2, 3, 4, 5, 9] [] Tryz.func34 rfl (by decide) (by kernel_rfl) rfl ?_
  have hW := WithR_T w r.c hs hr.c hr.v he he2
  obtain ⟨rt, rc, rpt, rpd, rl⟩ := r
  simp only [rRos, rosL, i64c] at hW
  by_cases h8 : 8 < rc.length
  · have h8' : (8 : Int) < rc.length := by omega
    simp [Rec.cells, rosK, i64c, h8, h8', Rec.ros]
  · have h8' : ¬ (8 : Int) < rc.length := by omega
    simp [Rec.cells, rosK, i64c, h8, h8', Rec.ros]
    intro v1 v2 v3
    refine callT_eq [] hW ?_
    simp [i64c]

theorem pls_len (l : List Ply) : (pls l).length = l.length := by simp [pls]
theorem getElem_pls {l : List Ply} {k : Nat} (h : k < l.length) : (pls l)[k]'(by rw [pls_len]; exact h) = l[k].p := by simp [pls]
theorem pls_eq {l : List Ply} {A : List Int} (hl : l.length = A.length) (h : ∀ i (h1 : i < l.length) (h2 : i < A.length), l[i].p = A[i]) : pls l = A :=
  List.ext_getElem (by simp [pls, hl]) fun i h1 h2 => by simp [pls]; exact h i (by simpa [pls] using h1) h2
theorem pchk_4 {a b : Int} (h : pchk a b ≠ 0) : pchk a b = 4 := by
  by_cases h4 : a < 1 ∨ 64 < a ∨ b < 1 ∨ 6 < b
  · unfold pchk; rw [if_pos h4]
  · exact absurd (by unfold pchk; rw [if_neg h4]) h

set_option maxHeartbeats 4000000 in
set_option maxRecDepth 100000 in
theorem RChk20_T (r : Rec) (n : Int) (w : Ros) (hs : w.s < 2 ^ 32) (hr : r.sz) (he : 0 ≤ w.e) (he2 : w.e ≤ 9223372036853775000) : callT Tryz.prog 33 [.agg r.cells, i64c n, .agg (rosK w)] ⟨[], []⟩ (fun x h => x = i64c (r.chk n w) ∧ h = []) := by
  refine callT_of_body [0, 1, 2, 3, 5, 6, 7, 8, 9, 10, 14, 30, 38, 46, 48, 49, 50, 51, 62] [] Tryz.func33 rfl (by decide) (by kernel_rfl) rfl ?_
  have hRo := RRos20_T r w hs hr he he2
  have hGo := Good_T r.pt r.pd
  have hCh := RChk10_T r.l (by have := hr.l; omega)
  have hll := hr.l
  obtain ⟨rt, rc, rpt, rpd, rl⟩ := r
  simp only at hll hCh hGo
  simp only [Rec.cells, rosK, i64c] at hRo hGo hCh
  by_cases ht : rt = n
  · subst ht
    by_cases hp : (rpt ≠ 0 ∨ rpd ≠ 0) ∧ pchk rpt rpd ≠ 0
    · have hk : (Rec.mk rt rc rpt rpd rl).chk rt w = 4 := by
        unfold Rec.chk
        rw [if_neg (by simp), if_pos hp]
        exact pchk_4 hp.2
      have hpc : ¬ pchk rpt rpd = 0 := hp.2
      by_cases h1 : rpt = 0
      · have h2 : ¬ rpd = 0 := by rcases hp.1 with h | h; exact absurd h1 h; exact h
        subst h1
        simp [Rec.cells, rosK, i64c, h2]
        intro v3 v5
        refine callT_eq [] hGo ?_
        simp [i64c, hpc, hk]
      · simp [Rec.cells, rosK, i64c, h1]
        intro v3 v5
        refine callT_eq [] hGo ?_
        simp [i64c, hpc, hk]
    · have hk : (Rec.mk rt rc rpt rpd rl).chk rt w = (if ((Rec.mk rt rc rpt rpd rl).ros w).2 ≠ 0 then ((Rec.mk rt rc rpt rpd rl).ros w).2 else if pls rl ≠ ((Rec.mk rt rc rpt rpd rl).ros w).1.all 32 then 13 else wchk rl) := by
        unfold Rec.chk
        rw [if_neg (by simp), if_neg hp]
      rw [hk]
      clear hk
      generalize (Rec.mk rt rc rpt rpd rl).ros w = q at hRo ⊢
      obtain ⟨q, e⟩ := q
      simp only at hRo ⊢
      have hql := Ros.all_len q 32
      generalize q.all 32 = A at hRo hql ⊢
      by_cases h1 : rpt = 0
      · subst h1
        by_cases h2 : rpd = 0
        · subst h2
          simp [Rec.cells, rosK, i64c]
          intro v3 v5
          refine callT_eq [] hRo ?_
          by_cases e0 : e = 0
          · subst e0
            by_cases hl : rl.length = A.length
            · have hl' : (rl.length : Int) = A.length := by omega
              simp [rosK, i64c, hl, hl']
              intro v7
              refine ⟨Nat, fun k => k ≤ A.length ∧ ∀ i (h1 : i < rl.length) (h2 : i < A.length), i < k → rl[i].p = A[i], fun k => ⟨[(3, .at 3 v3 0), (48, .isl (A.map i64c) A.length), (49, i64c A.length), (50, i64c k)],
                [(3, v3, ⟨0, [i64c rt, .isl (rowG rc) rc.length, i64c 0, i64c 0, .isl (rowP rl) rl.length]⟩)]⟩, fun k => A.length - k, ?_, ?_⟩
              · exact SLx.fin _ ⟨0, ⟨by simp, fun i _ _ h => absurd h (Nat.not_lt_zero _)⟩, rfl⟩ (by simp [i64c]) (by simp [i64c, hl])
              rintro k ⟨hk1, hk2⟩
              by_cases g : k < A.length
              · have g' : (k : Int) < A.length := by omega
                have gl : k < rl.length := by omega
                have gl' : (k : Int) < rl.length := by omega
                have ek : IntKind.i64.wrap ((k : Int) + 1) = ((k + 1 : Nat) : Int) := by rw [i64_id (by omega) (by omega)]; rfl
                have hat := rowP_at gl
                simp only [i64c] at hat
                by_cases hpe : rl[k].p = A[k]
                · simp [i64c, g, g', gl, gl', hat, hpe]
                  exact SLx.again (k + 1) ⟨by omega, fun i h1 h2 h3 => by
                    by_cases hik : i = k
                    · subst hik; exact hpe
                    · exact hk2 i h1 h2 (by omega)⟩ (by omega) (by simp [i64c, ek]) (by simp [i64c])
                · have hne : pls rl ≠ A := fun h => hpe (by rw [← getElem_pls gl]; simp only [h])
                  simp [i64c, g, g', gl, gl', hat, hpe, hne]
              · have hkA : k = A.length := by omega
                have heq : pls rl = A := pls_eq hl fun i h1 h2 => hk2 i h1 h2 (by omega)
                subst hkA
                simp [i64c]
                refine callT_eq [] hCh ?_
                simp [heq]
            · have hl' : ¬ (rl.length : Int) = A.length := by omega
              have hne : pls rl ≠ A := fun h => hl (by rw [← pls_len, h])
              simp [rosK, i64c, hl, hl', hne]
          · simp [rosK, i64c, e0]
        · have hpc : pchk 0 rpd = 0 := Classical.byContradiction fun h => hp ⟨.inr h2, h⟩
          rw [hpc] at hGo
          simp [Rec.cells, rosK, i64c, h2]
          intro v3 v5
          refine callT_eq [] hGo ?_
          simp [i64c]
          refine callT_eq [] hRo ?_
          by_cases e0 : e = 0
          · subst e0
            by_cases hl : rl.length = A.length
            · have hl' : (rl.length : Int) = A.length := by omega
              simp [rosK, i64c, hl, hl']
              intro v7
              refine ⟨Nat, fun k => k ≤ A.length ∧ ∀ i (h1 : i < rl.length) (h2 : i < A.length), i < k → rl[i].p = A[i], fun k => ⟨[(3, .at 3 v3 0), (48, .isl (A.map i64c) A.length), (49, i64c A.length), (50, i64c k)],
                [(3, v3, ⟨0, [i64c rt, .isl (rowG rc) rc.length, i64c 0, i64c rpd, .isl (rowP rl) rl.length]⟩)]⟩, fun k => A.length - k, ?_, ?_⟩
              · exact SLx.fin _ ⟨0, ⟨by simp, fun i _ _ h => absurd h (Nat.not_lt_zero _)⟩, rfl⟩ (by simp [i64c]) (by simp [i64c, hl])
              rintro k ⟨hk1, hk2⟩
              by_cases g : k < A.length
              · have g' : (k : Int) < A.length := by omega
                have gl : k < rl.length := by omega
                have gl' : (k : Int) < rl.length := by omega
                have ek : IntKind.i64.wrap ((k : Int) + 1) = ((k + 1 : Nat) : Int) := by rw [i64_id (by omega) (by omega)]; rfl
                have hat := rowP_at gl
                simp only [i64c] at hat
                by_cases hpe : rl[k].p = A[k]
                · simp [i64c, g, g', gl, gl', hat, hpe]
                  exact SLx.again (k + 1) ⟨by omega, fun i h1 h2 h3 => by
                    by_cases hik : i = k
                    · subst hik; exact hpe
                    · exact hk2 i h1 h2 (by omega)⟩ (by omega) (by simp [i64c, ek]) (by simp [i64c])
                · have hne : pls rl ≠ A := fun h => hpe (by rw [← getElem_pls gl]; simp only [h])
                  simp [i64c, g, g', gl, gl', hat, hpe, hne]
              · have hkA : k = A.length := by omega
                have heq : pls rl = A := pls_eq hl fun i h1 h2 => hk2 i h1 h2 (by omega)
                subst hkA
                simp [i64c]
                refine callT_eq [] hCh ?_
                simp [heq]
            · have hl' : ¬ (rl.length : Int) = A.length := by omega
              have hne : pls rl ≠ A := fun h => hl (by rw [← pls_len, h])
              simp [rosK, i64c, hl, hl', hne]
          · simp [rosK, i64c, e0]
      · have hpc : pchk rpt rpd = 0 := Classical.byContradiction fun h => hp ⟨.inl h1, h⟩
        rw [hpc] at hGo
        simp [Rec.cells, rosK, i64c, h1]
        intro v3 v5
        refine callT_eq [] hGo ?_
        simp [i64c]
        refine callT_eq [] hRo ?_
        by_cases e0 : e = 0
        · subst e0
          by_cases hl : rl.length = A.length
          · have hl' : (rl.length : Int) = A.length := by omega
            simp [rosK, i64c, hl, hl']
            intro v7
            refine ⟨Nat, fun k => k ≤ A.length ∧ ∀ i (h1 : i < rl.length) (h2 : i < A.length), i < k → rl[i].p = A[i], fun k => ⟨[(3, .at 3 v3 0), (48, .isl (A.map i64c) A.length), (49, i64c A.length), (50, i64c k)],
              [(3, v3, ⟨0, [i64c rt, .isl (rowG rc) rc.length, i64c rpt, i64c rpd, .isl (rowP rl) rl.length]⟩)]⟩, fun k => A.length - k, ?_, ?_⟩
            · exact SLx.fin _ ⟨0, ⟨by simp, fun i _ _ h => absurd h (Nat.not_lt_zero _)⟩, rfl⟩ (by simp [i64c]) (by simp [i64c, hl])
            rintro k ⟨hk1, hk2⟩
            by_cases g : k < A.length
            · have g' : (k : Int) < A.length := by omega
              have gl : k < rl.length := by omega
              have gl' : (k : Int) < rl.length := by omega
              have ek : IntKind.i64.wrap ((k : Int) + 1) = ((k + 1 : Nat) : Int) := by rw [i64_id (by omega) (by omega)]; rfl
              have hat := rowP_at gl
              simp only [i64c] at hat
              by_cases hpe : rl[k].p = A[k]
              · simp [i64c, g, g', gl, gl', hat, hpe]
                exact SLx.again (k + 1) ⟨by omega, fun i h1 h2 h3 => by
                  by_cases hik : i = k
                  · subst hik; exact hpe
                  · exact hk2 i h1 h2 (by omega)⟩ (by omega) (by simp [i64c, ek]) (by simp [i64c])
              · have hne : pls rl ≠ A := fun h => hpe (by rw [← getElem_pls gl]; simp only [h])
                simp [i64c, g, g', gl, gl', hat, hpe, hne]
            · have hkA : k = A.length := by omega
              have heq : pls rl = A := pls_eq hl fun i h1 h2 => hk2 i h1 h2 (by omega)
              subst hkA
              simp [i64c]
              refine callT_eq [] hCh ?_
              simp [heq]
          · have hl' : ¬ (rl.length : Int) = A.length := by omega
            have hne : pls rl ≠ A := fun h => hl (by rw [← pls_len, h])
            simp [rosK, i64c, hl, hl', hne]
        · simp [rosK, i64c, e0]
  · have hk : (Rec.mk rt rc rpt rpd rl).chk n w = 12 := by
      unfold Rec.chk
      rw [if_pos ht]
    simp [Rec.cells, rosK, i64c, ht, hk]
end Go.Proofs.YtgkhedmjkahclaaGreatDoor.TL
