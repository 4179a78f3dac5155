/- The reference's units: read of bytes, the table. -/
import Derived.Test.YtgkhedmjkahclaaGreatUReadR8
namespace Go.Proofs.YtgkhedmjkahclaaGreat.TL
open Go
set_option linter.unusedVariables false
set_option linter.unusedSimpArgs false

set_option maxHeartbeats 2000000 in
set_option maxRecDepth 100000 in
theorem ReadR8_T (i : In) : callT Tryz.prog 53 [rIn i] ⟨[], []⟩ (fun r h => r = .tup [rIn i.tab.1, rTab i.tab.2] ∧ h = []) := by
  refine callT.mono (K := fun r h => ∃ u, r = .tup [rIn i.tab.1, .agg [.sl 1001 u 0 i.tab.2.l.length, i64v i.tab.2.next]] ∧ h = [(1001, u, ⟨6, rowU i.tab.2.l⟩)]) ?_ fun r h hh => ?_
  · refine callT_of_body [0, 1, 2, 3, 4, 5, 6, 7, 8, 9, 10, 30, 51] [1001] Tryz.func53 rfl (by decide) (by kernel_rfl) rfl ?_
    have hc1 := i.count_rng 1099511627776 (by decide)
    have hc2 := (i.count 1099511627776).1.count_rng 64 (by decide)
    simp
    intro v1 v2 v3
    refine callT_eq [] (TakeCountR_T i 1099511627776 (by decide)) ?_
    simp [i64v]
    refine callT_eq [] (TakeCountR_T (i.count 1099511627776).1 64 (by decide)) ?_
    simp [i64v]
    intro v6
    refine ⟨Nat × In × Int × List Un × Nat × Nat × Nat, fun x => x.1 ≤ ((i.count 1099511627776).1.count 64).2.toNat ∧ x.2.2.2.1.length ≤ x.1 ∧ 0 ≤ x.2.2.1 ∧ x.2.2.1 ≤ x.2.2.2.1.length * 1099511627776 ∧ In.units (((i.count 1099511627776).1.count 64).2.toNat - x.1) x.2.1 x.2.2.1 (i.count 1099511627776).2 x.2.2.2.1 = In.units ((i.count 1099511627776).1.count 64).2.toNat ((i.count 1099511627776).1.count 64).1 0 (i.count 1099511627776).2 [],
      fun x => ⟨[(1, .at 1 v1 0), (2, .at 2 v2 0), (3, .at 3 v3 0), (4, i64v (i.count 1099511627776).2), (5, i64v ((i.count 1099511627776).1.count 64).2), (6, .at 6 v6 0), (7, i64v x.2.2.1), (8, .v (.int .i64 x.1))], [(1, v1, ⟨0, [.v (.string (bs x.2.1.l)), .v (.int .i64 x.2.1.e)]⟩), (2, v2, ⟨0, [.v (.string (bs [])), .v (.int .i64 0)]⟩), (3, v3, ⟨0, [.v (.slice none 0 0), .v (.int .i64 0)]⟩), (6, v6, ⟨0, [.sl 1001 x.2.2.2.2.1 0 x.2.2.2.1.length, i64v (i.count 1099511627776).2]⟩), (1001, x.2.2.2.2.1, ⟨6, rowU x.2.2.2.1⟩)]⟩, fun x => ((i.count 1099511627776).1.count 64).2.toNat - x.1, ?_, ?_⟩
    · refine SLx.nilCell 6 0 1001 6 (by decide) (by decide) rfl rfl fun u => SLx.fin _ ⟨(0, ((i.count 1099511627776).1.count 64).1, 0, [], u, 0, 0), ⟨by simp, by simp, by simp, by simp, rfl⟩, rfl⟩ ?_ ?_
      · simp [i64v]
      · simp [i64v, setH]
    · rintro ⟨k, i1, last, l, u, z1, z2⟩ ⟨hk, hl, hl0, hl1, hrec⟩
      simp only at hk hl hl0 hl1 hrec ⊢
      have out : In.units (((i.count 1099511627776).1.count 64).2.toNat - k) i1 last (i.count 1099511627776).2 l = (i1, l) → i.tab = (if (i.count 1099511627776).2 < 1 then i1.fail 4 else i1, ⟨l, (i.count 1099511627776).2⟩) := fun h => by
        simp only [In.tab, ← hrec, h]
      by_cases hkn : (k : Int) < ((i.count 1099511627776).1.count 64).2
      · simp [i64v, hkn]
        by_cases he : i1.e = 0
        · simp [he]
          refine callT_eq [] (OneR_T i1 last (i.count 1099511627776).2 (by omega) (by omega)) ?_
          have e5 : IntKind.i64.wrap ((k : Int) + 1) = ((k + 1 : Nat) : Int) := by rw [i64_id (by omega) (by omega)]; rfl
          have hid := unit_id i1 last (i.count 1099511627776).2
          have hcr := i1.count_rng 1099511627776 (by decide)
          have hrec2 : In.units (((i.count 1099511627776).1.count 64).2.toNat - (k + 1)) (i1.unit last (i.count 1099511627776).2).1 (i1.unit last (i.count 1099511627776).2).2.id (i.count 1099511627776).2 (l ++ [(i1.unit last (i.count 1099511627776).2).2]) = In.units (((i.count 1099511627776).1.count 64).2.toNat - k) i1 last (i.count 1099511627776).2 l := by
            rw [show ((i.count 1099511627776).1.count 64).2.toNat - k = ((i.count 1099511627776).1.count 64).2.toNat - (k + 1) + 1 by omega, In.units, if_neg (by simp [he])]
          generalize hw : i1.unit last (i.count 1099511627776).2 = q at hid hrec2 ⊢
          obtain ⟨i2, w⟩ := q
          simp only at hid hrec2
          have hw0 : w.cells = i64v w.id :: [i64v w.a, i64v w.b, i64v w.c, i64v w.d, i64v w.e] := rfl
          have t6 := take6 l
          simp [i64v, hw0, t6]
          refine ⟨he.symm, fun v9 v10 v47 => ⟨by omega, by omega, fun u5 => ?_⟩⟩
          exact SLx.again (k + 1, i2, w.id, l ++ [w], u5, v9, v10) ⟨by simp only; omega, by simp; omega, by simp only; omega, by simp; omega, hrec2.trans hrec⟩ (by simp only; omega) (by simp [i64v, e5]) (by simp [i64v, Un.cells])
        · simp [he]
          have hb := out (by cases hn : ((i.count 1099511627776).1.count 64).2.toNat - k <;> simp [In.units, he])
          by_cases h4 : (i.count 1099511627776).2 < 1
          · refine ⟨fun _ => ?_, by intros; exfalso; omega⟩
            refine callT_eq [] (FailR_T i1 4) ?_
            simp
            refine draw_g [0, 1, 2] 3 [(2, [0])] (by kernel_rfl) (by kernel_rfl) (by kernel_rfl) ?_
            simp [hb, h4]
          · refine ⟨by intros; exfalso; omega, fun _ => ?_⟩
            refine draw_g [0, 1, 2] 3 [(2, [0])] (by kernel_rfl) (by kernel_rfl) (by kernel_rfl) ?_
            simp [hb, h4]
      · simp [i64v, hkn]
        have hb := out (by rw [show ((i.count 1099511627776).1.count 64).2.toNat - k = 0 by omega]; rfl)
        by_cases h4 : (i.count 1099511627776).2 < 1
        · refine ⟨fun _ => ?_, by intros; exfalso; omega⟩
          refine callT_eq [] (FailR_T i1 4) ?_
          simp
          refine draw_g [0, 1, 2] 3 [(2, [0])] (by kernel_rfl) (by kernel_rfl) (by kernel_rfl) ?_
          simp [hb, h4]
        · refine ⟨by intros; exfalso; omega, fun _ => ?_⟩
          refine draw_g [0, 1, 2] 3 [(2, [0])] (by kernel_rfl) (by kernel_rfl) (by kernel_rfl) ?_
          simp [hb, h4]
  · obtain ⟨u, rfl, rfl⟩ := hh
    refine VLx.frz 1001 rfl (VLx.done ?_)
    have e1 := take6 i.tab.2.l
    simp [rTab, i64v, e1]
end Go.Proofs.YtgkhedmjkahclaaGreat.TL
