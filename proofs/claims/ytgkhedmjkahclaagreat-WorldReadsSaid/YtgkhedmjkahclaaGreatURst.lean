/- A world read of bytes. -/
import Derived.Test.YtgkhedmjkahclaaGreatUWTxt
import Derived.Test.YtgkhedmjkahclaaGreatURead8
namespace Go.Proofs.YtgkhedmjkahclaaGreat.TL
open Go
set_option linter.unusedVariables false
set_option linter.unusedSimpArgs false

def In.cells : Nat → Nat → In → List Int → In × List Int
  | 0, _, i, c => (i, c)
  | n + 1, k, i, c => In.cells n (k + 1) i.int.1 (c.set k i.int.2)
/-- A heap, read. -/
def In.heap (i : In) : In × List Int :=
  let c := i.count 64
  let q := In.cells c.2.toNat 0 c.1 (List.replicate 64 0)
  (if 0 < c.2 ∧ q.2[c.2.toNat - 1]?.getD 0 = 0 then q.1.fail 2 else q.1, q.2)
def CellsTo (n k : Nat) (i : In) (c : List Int) (j0 : In) : Prop := In.cells (n - k) k i c = In.cells n 0 j0 (List.replicate 64 0)
theorem cells_len64 : ∀ (n k : Nat) (i : In) (c : List Int), (In.cells n k i c).2.length = c.length
  | 0, _, _, _ => rfl
  | n + 1, k, i, c => by rw [In.cells, cells_len64]; simp
theorem heap_len (i : In) : i.heap.2.length = 64 := by simp [In.heap, cells_len64]

set_option maxHeartbeats 1000000 in
set_option maxRecDepth 100000 in
theorem FRead_T (v : Nat) (i : In) : callT Tryz.prog 67 [.at 1000 v 0] ⟨[], [(1000, v, inB i)]⟩
    (fun r h => (i.heap.1.e ≠ 0 ∧ r = .v (.pointer none) ∧ h = [(1000, v, inB i.heap.1)]) ∨ (i.heap.1.e = 0 ∧ ∃ vh, r = .at 3 vh 0 ∧ h = [(1000, v, inB i.heap.1), (3, vh, ⟨0, i.heap.2.map i64v⟩)])) := by
  refine callT.mono (K := fun r h => (i.heap.1.e ≠ 0 ∧ r = .v (.pointer none) ∧ ∃ a b, h = [(1000, v, inB i.heap.1), (3, a, b)]) ∨ (i.heap.1.e = 0 ∧ ∃ vh, r = .at 3 vh 0 ∧ h = [(1000, v, inB i.heap.1), (3, vh, ⟨0, i.heap.2.map i64v⟩)])) ?_ fun r h hh => ?_
  · refine callT_of_body [0, 2, 3, 4, 5, 8, 9, 10, 27, 32] [1000, 3] Tryz.func67 rfl (by decide) (by kernel_rfl) rfl ?_
    have hcr := In.count_rng i 64 (by decide)
    have hc := Count_T v i 64 (by decide)
    simp [-List.reduceReplicate]
    intro v3
    refine callT_eq [(1000, 1000)] hc ?_
    obtain ⟨n, hn⟩ : ∃ n : Nat, (i.count 64).2 = n := ⟨(i.count 64).2.toNat, by omega⟩
    have hn64 : n ≤ 64 := by omega
    obtain ⟨j0, hj0⟩ : ∃ j, j = (i.count 64).1 := ⟨_, rfl⟩
    have hh : i.heap = (if 0 < n ∧ (In.cells n 0 j0 (List.replicate 64 0)).2[n - 1]?.getD 0 = 0 then (In.cells n 0 j0 (List.replicate 64 0)).1.fail 2 else (In.cells n 0 j0 (List.replicate 64 0)).1, (In.cells n 0 j0 (List.replicate 64 0)).2) := by
      simp only [In.heap, hn, hj0]
      simp
    rw [hh]
    simp [-List.reduceReplicate, hn, ← hj0]
    refine loopT_of (Nat × In × List Int) (fun x => x.1 ≤ n ∧ x.2.2.length = 64 ∧ CellsTo n x.1 x.2.1 x.2.2 j0) (fun x => ⟨[(0, .at 1000 v 0), (3, .at 3 v3 0), (4, i64v n), (8, i64v n), (9, i64v x.1)], [(1000, v, inB x.2.1), (3, v3, ⟨0, x.2.2.map i64v⟩)]⟩) (fun x => n - x.1) (0, j0, List.replicate 64 0) ⟨by simp, by simp, rfl⟩ (by simp [i64v]) (by simp [i64v]) ?_
    rintro ⟨k, i1, c⟩ ⟨hk, hl, hr⟩
    simp only at hk hl hr ⊢
    by_cases g : k < n
    · have g' : (k : Int) < n := by omega
      have ek : IntKind.i64.wrap ((k : Int) + 1) = ((k + 1 : Nat) : Int) := by rw [i64_id (by omega) (by omega)]; rfl
      rw [CellsTo, show n - k = (n - (k + 1)) + 1 by omega, In.cells] at hr
      have hso := set_over (D := c) (k := k) (x := i1.int.2) (by omega)
      simp only [i64v] at hso
      have g64 : (k : Int) < 64 := by omega
      have g64' : k < c.length := by omega
      simp [i64v, g, g']
      refine callT_eq [(1000, 1000)] (Int_T v i1) ?_
      simp [i64v, g64, g64']
      exact ⟨by omega, SLx.again (k + 1, i1.int.1, c.set k i1.int.2) ⟨by simp only; omega, by simpa using hl, hr⟩ (by simp only; omega) (by simp [i64v, ek]) (by simp [i64v, hso])⟩
    · have hkn : k = n := by omega
      subst hkn
      simp only [CellsTo, Nat.sub_self, In.cells] at hr
      rw [← hr]
      by_cases k0 : k = 0
      · subst k0
        simp [i64v]
        refine callT_eq [(1000, 1000)] (Err_T v i1) ?_
        by_cases he : i1.e = 0 <;> simp [he, i64v]
      · have k0' : 0 < k := by omega
        have kl : k - 1 < c.length := by omega
        have kl' : (k : Int) - 1 < 64 := by omega
        have kl0 : ¬ (k : Int) - 1 < 0 := by omega
        have ek : IntKind.i64.wrap ((k : Int) - 1) = ((k - 1 : Nat) : Int) := by rw [i64_id (by omega) (by omega)]; omega
        have kl2 : ((k - 1 : Nat) : Int) < 64 := by omega
        by_cases hz : c[k - 1] = 0
        · simp [i64v, k0', k0, ek, kl, kl2, hz]
          refine callT_eq [(1000, 1000)] (Fail_T v i1 2) ?_
          simp
          refine callT_eq [(1000, 1000)] (Err_T v (i1.fail 2)) ?_
          by_cases he : (i1.fail 2).e = 0 <;> simp [he, i64v]
        · simp [i64v, k0', k0, ek, kl, kl2, hz]
          refine callT_eq [(1000, 1000)] (Err_T v i1) ?_
          by_cases he : i1.e = 0 <;> simp [he, i64v]
  · rcases hh with ⟨h1, rfl, a, b, rfl⟩ | ⟨h1, vh, rfl, rfl⟩
    · exact VLx.sub [(1000, v, inB i.heap.1)] (by simp) (VLx.done (.inl ⟨h1, rfl, rfl⟩))
    · exact VLx.done (.inr ⟨h1, vh, rfl, rfl⟩)
end Go.Proofs.YtgkhedmjkahclaaGreat.TL
