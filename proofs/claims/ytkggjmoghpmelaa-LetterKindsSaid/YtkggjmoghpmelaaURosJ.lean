/- A change read of bytes, the reference's. -/
import Derived.Test.YtkggjmoghpmelaaURosI
import Derived.Test.YtkggjmoghpmelaaUR2
namespace Go.Proofs.Ytkggjmoghpmelaa.TL
open Go
set_option linter.unusedVariables false
set_option linter.unusedSimpArgs false

theorem VLx.nilT {h : Heap} {S : TV → Heap → Prop} {z a b : TV} (k : VLx (.tup [z, .agg [a, b, .isl [] 0]]) h S) : VLx (.tup [z, .agg [a, b, .v (.slice none 0 0)]]) h S := fun e E w v H hv => by
  refine k e E w v H ?_
  simp only [RV, RVl] at hv ⊢
  obtain ⟨zs, h1, h2, ⟨x, g, kx⟩, ⟨y, gy, cs, c1, c2, ⟨y0, g0, k0⟩, ⟨y1, g1, k1⟩, ⟨y2, g2, k2⟩, h3⟩, h4⟩ := hv
  exact ⟨zs, h1, h2, ⟨x, g, kx⟩, ⟨y, gy, cs, c1, c2, ⟨y0, g0, k0⟩, ⟨y1, g1, k1⟩, ⟨y2, g2, .inl ⟨trivial, trivial, k2⟩⟩, h3⟩, h4⟩

set_option maxHeartbeats 2000000 in
set_option maxRecDepth 100000 in
theorem RdChgR_T (i : In) : callT Try.prog 83 [rIn i] ⟨[], []⟩ (fun x h => x = .tup [rIn i.chg.1, .agg i.chg.2.cells] ∧ h = []) := by
  refine callT.mono (K := fun x h => (i.chg.1.e ≠ 0 ∧ x = .tup [rIn i.chg.1, .agg [i64c 0, i64c 0, .v (.slice none 0 0)]] ∧ ∃ c, h = [(1001, c)]) ∨ (i.chg.1.e = 0 ∧ ∃ u, x = .tup [rIn i.chg.1, .agg [i64c i.chg.2.k, i64c i.chg.2.p, .sl 1001 u 0 i.chg.2.v.length]] ∧ h = [(1001, u, ⟨1, i.chg.2.v.map i64c⟩)])) ?_ fun x h hh => ?_
  · refine callT_of_body [0, 1, 2, 3, 4, 5, 6, 7, 8, 9, 10, 36, 53] [1001] Try.func83 rfl (by decide) (by kernel_rfl) rfl ?_
    have hn := ((i.count 3).1.count 31).1.count_rng' 32 (by decide)
    simp
    intro v1 v2 v3
    refine callT_eq [] (TakeCountR_T i 3 (by decide)) ?_
    simp
    refine callT_eq [] (TakeCountR_T (i.count 3).1 31 (by decide)) ?_
    simp
    refine callT_eq [] (TakeCountR_T ((i.count 3).1.count 31).1 32 (by decide)) ?_
    simp
    intro v7
    generalize hN : ((i.count 3).1.count 31).1.count 32 = N at hn
    refine ⟨Nat × In × List Int × Nat × Nat, fun x => x.1 ≤ N.2.toNat ∧ x.2.2.1.length ≤ x.1 ∧ In.vot (N.2.toNat - x.1) x.2.1 x.2.2.1 = In.vot N.2.toNat N.1 [], fun x => ⟨[(1, .at 1 v1 0), (2, .at 2 v2 0), (3, .at 3 v3 0), (6, .v (.int .i64 N.2)), (7, .at 7 v7 0), (8, .v (.int .i64 x.1))], [(1, v1, ⟨0, [.v (.string (bs x.2.1.l)), .v (.int .i64 x.2.1.e)]⟩), (2, v2, ⟨0, [.v (.string (bs [])), .v (.int .i64 0)]⟩), (3, v3, ⟨0, [i64c 0, i64c 0, .v (.slice none 0 0)]⟩), (7, v7, ⟨0, [i64c (i.count 3).2, i64c ((i.count 3).1.count 31).2, .sl 1001 x.2.2.2.1 0 x.2.2.1.length]⟩), (1001, x.2.2.2.1, ⟨1, x.2.2.1.map i64c⟩)]⟩, fun x => N.2.toNat - x.1, ?_, ?_⟩
    · refine SLx.nilCell 7 2 1001 1 (by decide) (by decide) rfl rfl fun u => SLx.fin _ ⟨(0, N.1, [], u, 0), ⟨by simp, by simp, rfl⟩, rfl⟩ ?_ ?_
      · simp
      · simp [i64c, setH]
    rintro ⟨k, i1, l, u, z⟩ ⟨hk, hl, hvot⟩
    simp only at hk hl hvot ⊢
    have out : In.vot (N.2.toNat - k) i1 l = (i1, l) → i.chg = if i1.e ≠ 0 then (i1, ⟨0, 0, []⟩) else (i1, ⟨(i.count 3).2, ((i.count 3).1.count 31).2, l⟩) := fun h => by
      simp only [In.chg, hN, ← hvot, h]
    by_cases hkn : (k : Int) < N.2
    · by_cases he : i1.e = 0
      · simp [hkn, he]
        refine callT_eq [] (TakeCountR_T i1 31 (by decide)) ?_
        have e5 : IntKind.i64.wrap ((k : Int) + 1) = ((k + 1 : Nat) : Int) := by rw [i64_id (by omega) (by omega)]; rfl
        have hrec : In.vot (N.2.toNat - (k + 1)) (i1.count 31).1 (l ++ [(i1.count 31).2]) = In.vot (N.2.toNat - k) i1 l := by
          rw [show N.2.toNat - k = N.2.toNat - (k + 1) + 1 by omega, In.vot, if_neg (by simp [he])]
        simp [i64c]
        refine ⟨he.symm, fun v9 v48 => ⟨by omega, by omega, fun u2 => ?_⟩⟩
        exact SLx.again (k + 1, (i1.count 31).1, l ++ [(i1.count 31).2], u2, 0) ⟨by simp only; omega, by simp; omega, hrec.trans hvot⟩ (by simp only; omega) (by simp [e5]) (by simp [i64c])
      · have hb := out (by cases hn2 : N.2.toNat - k <;> simp [In.vot, he])
        simp [hkn, he, hb, i64c]
    · have hb := out (by rw [show N.2.toNat - k = 0 by omega]; rfl)
      by_cases he : i1.e = 0
      · simp [hkn, he]
        refine draw_g [0, 1, 2] 3 [(2, [0])] (by kernel_rfl) (by kernel_rfl) (by kernel_rfl) ?_
        simp [he, hb, i64c]
      · simp [hkn, he, hb, i64c]
  · rcases hh with ⟨h1, rfl, c, rfl⟩ | ⟨h1, u, rfl, rfl⟩
    · have hz : i.chg.2 = ⟨0, 0, []⟩ := by
        unfold In.chg at h1 ⊢
        simp only at h1 ⊢
        split
        · rfl
        · rename_i hh; rw [if_neg hh] at h1; exact absurd h1 hh
      refine VLx.nilT (VLx.sub [] (by simp [getH]) (VLx.done ⟨?_, rfl⟩))
      rw [hz]; rfl
    · refine VLx.frz 1001 rfl (VLx.done ?_)
      simp [Chg.cells, i64c]
end Go.Proofs.Ytkggjmoghpmelaa.TL
