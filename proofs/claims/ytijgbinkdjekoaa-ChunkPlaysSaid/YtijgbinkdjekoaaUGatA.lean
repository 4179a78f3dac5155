/- Chunk's laws: awake. -/
import Derived.Test.YtijgbinkdjekoaaUGatN
namespace Go.Proofs.Ytijgbinkdjekoaa.TL
open Go
set_option linter.unusedVariables false
set_option linter.unusedSimpArgs false

theorem callT_ex2 {P : Program} {f : Nat} {args0 args : List TV} {s : TS} {h0 : Heap} {H1 : Nat → Nat → Heap} {R : Nat → Nat → TV} {K : TV → Heap → Prop} (τ : List (Nat × Nat)) (hc : callT P f args0 ⟨[], h0⟩ (fun r h => ∃ u v, r = R u v ∧ h = H1 u v))
    (h : okTau τ = true ∧ args = renL (mapId τ) args0 ∧ okL (fun b => (mapId τ b).isSome = true) args0 ∧ (∀ p ∈ h0, okB (fun b => (mapId τ b).isSome = true) p.2.2 ∧ ∃ j, mapId τ p.1 = some j ∧ getH s.h j = some (p.2.1, renB (mapId τ) p.2.2)) ∧
      ∀ u v, okT (fun _ => True) (R u v) ∧ (∀ p ∈ H1 u v, (mapId τ p.1).isSome = true ∧ okB (fun _ => True) p.2.2) ∧ K (renT (mapId τ) (R u v)) (applyH (mapId τ) (H1 u v) τ s.h)) : callT P f args s K := by
  obtain ⟨h1, h2, h3, h4, h5⟩ := h
  exact callT_use τ hc h1 h2 h3 h4 fun r h ⟨u, v, e1, e2⟩ => by subst e1 e2; exact h5 u v

set_option maxHeartbeats 4000000 in
set_option maxRecDepth 100000 in
theorem Awk11_T : callT Try.prog 8 [] ⟨[], []⟩ (fun r h => r = .v (.bool true) ∧ h = []) := by
  refine callT_of_body [0, 1, 2] [] Try.func8 rfl (by decide) (by kernel_rfl) rfl ?_
  simp [-List.reduceReplicate]
  intro v3
  have hall : AllB (List.replicate 250 (TV.v (.int .u8 0))) := ⟨List.replicate 250 0, by rw [List.map_replicate]; rfl⟩
  have hub : (List.replicate 250 (TV.v (.int .u8 0))).map unbv = List.replicate 250 0 := by rw [List.map_replicate]; rfl
  have hzl : (List.replicate 250 (0 : UInt8)).length = 250 := List.length_replicate
  have hsp := Split_T 3 (List.replicate 250 0) (by rw [hzl]; decide)
  have hlen : (split 3 (List.replicate 250 (0 : UInt8))).length = 3 := by unfold split; rw [hzl]; rfl
  have h0 : ∀ k, (h : k < (split 3 (List.replicate 250 (0 : UInt8))).length) → (split 3 (List.replicate 250 (0 : UInt8)))[k] = pieceAt 3 (List.replicate 250 0) k := fun k h => pieces_get h
  have r0 := rowQ_at (l := split 3 (List.replicate 250 (0 : UInt8))) (k := 0) (by omega)
  have r2 := rowQ_at (l := split 3 (List.replicate 250 (0 : UInt8))) (k := 2) (by omega)
  rw [h0] at r0 r2
  have hp := put_gS (G := ⟨0, 0, 0, false, []⟩) (t := 3) (s := List.replicate 250 (0 : UInt8)) (k := 0) (.inl rfl) (by decide) (by rw [hzl]; decide) (by rw [hzl]; decide)
  have hs2 : (pieceAt 3 (List.replicate 250 (0 : UInt8)) 2).s.length = 50 := by simp only [pieceAt, List.length_take, List.length_drop, hzl]; decide
  have hs0 : (pieceAt 3 (List.replicate 250 (0 : UInt8)) 0).s.length ≤ 100 := by simp only [pieceAt, List.length_take, List.length_drop, hzl]; decide
  have hP := fun v w => GPut_T v w ⟨0, 0, 0, false, []⟩ (pieceAt 3 (List.replicate 250 0) 0) (by omega)
  simp only [gS, if_true] at hp
  rw [hp] at hP
  have e0 : (pieceAt 3 (List.replicate 250 (0 : UInt8)) 2).n = 2 := rfl
  have e1 : (pieceAt 3 (List.replicate 250 (0 : UInt8)) 2).t = 3 := rfl
  rw [e0, e1] at r2
  have hcn := PcCount_T 101 (by decide)
  have hpn : pcN 101 = 2 := by decide
  rw [hpn] at hcn
  rw [hlen] at hsp
  refine ⟨hall, ?_⟩
  have hu0 : unbv (TV.v (.int .u8 0)) = 0 := rfl
  rw [hu0]
  simp only [i64c] at hsp
  generalize split 3 (List.replicate 250 (0 : UInt8)) = L at *
  generalize pieceAt 3 (List.replicate 250 (0 : UInt8)) 2 = p2 at *
  generalize pieceAt 3 (List.replicate 250 (0 : UInt8)) 0 = p0 at *
  simp [i64c] at hcn
  clear hall hub hzl h0
  generalize List.replicate 250 (0 : UInt8) = Z at *
  generalize List.replicate 250 (TV.v (.int .u8 0)) = ZC at *
  simp only [Nat.zero_mul, List.drop_zero] at r0
  have q5 : List.take 5 (rowQ L) = [i64c p0.t, i64c p0.b, u64c p0.h, i64c p0.n, .v (.string (bs p0.s))] := by rw [r0]; rfl
  have q6 : (rowQ L).length = 15 := by simp [hlen]
  have q7 : List.drop 10 (rowQ L) = i64c 3 :: i64c p2.b :: u64c p2.h :: i64c 2 :: .v (.string (bs p2.s)) :: rowQ (List.drop 3 L) := r2
  have q8 : List.drop 14 (rowQ L) = .v (.string (bs p2.s)) :: rowQ (List.drop 3 L) := by rw [show 14 = 10 + 4 from rfl, ← List.drop_drop, q7]; rfl
  have q9 : List.drop 13 (rowQ L) = i64c 2 :: .v (.string (bs p2.s)) :: rowQ (List.drop 3 L) := by rw [show 13 = 10 + 3 from rfl, ← List.drop_drop, q7]; rfl
  clear r0 r2
  refine callT_eq [] hsp ?_
  simp
  refine callT_ex2 [(1, 1001), (3, 6)] GNew_T ?_
  simp (maxSteps := 2000000) [i64c, u64c, q5, q6, q7, q8, q9, hs2]
  intro w v
  refine callT_eq [] hcn ?_
  simp (maxSteps := 2000000) [i64c, u64c, q5, q6]
  refine callT_ex [(1000, 6), (1001, 1001)] (hP v w) ?_
  simp [gatH, Gth.cells, Pcs.cells, i64c, u64c]
end Go.Proofs.Ytijgbinkdjekoaa.TL
