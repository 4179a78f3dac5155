/- The reference's records: read of bytes. -/
import Derived.Test.YtkggjmoghpmelaaURec
import Derived.Test.YtkggjmoghpmelaaUOrdC
import Derived.Test.YtkggjmoghpmelaaUR2
import Derived.Test.YtkggjmoghpmelaaURosJ
namespace Go.Proofs.Ytkggjmoghpmelaa.TL
open Go
set_option linter.unusedVariables false
set_option linter.unusedSimpArgs false

def In.bat (i : In) : In × List Ord := In.ords (i.count 8).2.toNat (i.count 8).1 []
theorem batch_bat (i : In) : i.batch = (i.bat.1, if i.bat.1.e ≠ 0 then [] else i.bat.2) := rfl

set_option maxHeartbeats 2000000 in
set_option maxRecDepth 100000 in
theorem Rd9R_T (i : In) : callT Try.prog 47 [rIn i] ⟨[], []⟩ (fun x h => x = .tup [rIn i.bat.1, .isl (rowC i.bat.2) i.bat.2.length] ∧ h = []) := by
  refine callT.mono (K := fun x h => ∃ u, x = .tup [rIn i.bat.1, .sl 21 u 0 i.bat.2.length] ∧ h = [(21, u, ⟨4, rowC i.bat.2⟩)]) ?_ fun x h hh => ?_
  · refine callT_of_body [0, 1, 2, 3, 4, 5, 6, 7, 8, 9, 10, 11, 12, 13, 14, 15, 29] [21] Try.func47 rfl (by decide) (by kernel_rfl) rfl ?_
    have hn := i.count_le 8 (by decide)
    simp
    intro v1 v2
    refine callT_eq [] (TakeCountR_T i 8 (by decide)) ?_
    simp
    intro v21
    have hB : i.bat = In.ords (i.count 8).2.toNat (i.count 8).1 [] := rfl
    generalize hN : i.count 8 = N at hn hB
    refine loopT_of (Nat × In × List Ord × Nat) (fun x => x.1 ≤ N.2.toNat ∧ x.2.2.1.length ≤ x.1 ∧ In.ords (N.2.toNat - x.1) x.2.1 x.2.2.1 = In.ords N.2.toNat N.1 []) (fun x => ⟨[(1, .at 1 v1 0), (2, .at 2 v2 0), (4, .v (.int .i64 N.2)), (5, .sl 21 x.2.2.2 0 x.2.2.1.length), (6, .v (.int .i64 x.1))], [(1, v1, ⟨0, [.v (.string (bs x.2.1.l)), .v (.int .i64 x.2.1.e)]⟩), (2, v2, ⟨0, [.v (.string (bs [])), .v (.int .i64 0)]⟩), (21, x.2.2.2, ⟨4, rowC x.2.2.1⟩)]⟩) (fun x => N.2.toNat - x.1) (0, N.1, [], v21) ⟨by simp, by simp, rfl⟩ (by simp) (by simp) ?_
    rintro ⟨k, i1, l, u⟩ ⟨hk, hl, hrec⟩
    simp only at hk hl hrec ⊢
    have out : In.ords (N.2.toNat - k) i1 l = (i1, l) → i.bat = (i1, l) := fun h => by rw [hB, ← hrec, h]
    by_cases hkn : (k : Int) < N.2
    · by_cases he : i1.e = 0
      · obtain ⟨li, ei⟩ := i1
        simp only at he
        subst he
        obtain ⟨c1, hc1⟩ : ∃ c, (In.mk li 0).count 4 = c := ⟨_, rfl⟩
        obtain ⟨c2, hc2⟩ : ∃ c, c1.1.count 1099511627776 = c := ⟨_, rfl⟩
        obtain ⟨c3, hc3⟩ : ∃ c, c2.1.int = c := ⟨_, rfl⟩
        obtain ⟨c4, hc4⟩ : ∃ c, c3.1.int = c := ⟨_, rfl⟩
        have hord : (In.mk li 0).ord = (c4.1.fail (Ord.mk c1.2 c2.2 c3.2 c4.2).chk, ⟨c1.2, c2.2, c3.2, c4.2⟩) := by
          simp only [In.ord, hc1, hc2, hc3, hc4]
        simp [hkn]
        refine callT_eq [] (TakeCountR_T ⟨li, 0⟩ 4 (by decide)) ?_
        simp [hc1]
        intro v7
        refine callT_eq [] (TakeCountR_T c1.1 1099511627776 (by decide)) ?_
        simp [hc2]
        intro v9
        refine callT_eq [] (TakeIntR_T c2.1) ?_
        simp [hc3]
        intro v11
        refine callT_eq [] (TakeIntR_T c3.1) ?_
        simp [hc4]
        intro v13 v15
        refine draw_g [0, 1, 2] 3 [(2, [1])] (by kernel_rfl) (by kernel_rfl) (by kernel_rfl) ?_
        simp
        refine callT_eq [] (CheckR_T ⟨c1.2, c2.2, c3.2, c4.2⟩) ?_
        simp [Ord.cells, i64c]
        refine callT_eq [] (FailR_T c4.1 (Ord.mk c1.2 c2.2 c3.2 c4.2).chk) ?_
        have e5 : IntKind.i64.wrap ((k : Int) + 1) = ((k + 1 : Nat) : Int) := by rw [i64_id (by omega) (by omega)]; rfl
        have e6 : List.drop (l.length * 4) (rowC l) = [] := List.drop_of_length_le (by simp)
        have e7 : List.take (l.length * 4) (rowC l) = rowC l := List.take_of_length_le (by simp)
        have hstep : In.ords (N.2.toNat - (k + 1)) (c4.1.fail (Ord.mk c1.2 c2.2 c3.2 c4.2).chk) (l ++ [⟨c1.2, c2.2, c3.2, c4.2⟩]) = In.ords (N.2.toNat - k) (In.mk li 0) l := by
          rw [show N.2.toNat - k = N.2.toNat - (k + 1) + 1 by omega, In.ords, if_neg (by simp), hord]
        simp [Ord.cells, i64c]
        refine fun v63 => ⟨by omega, by omega, fun u2 => ?_⟩
        exact SLx.again (k + 1, c4.1.fail (Ord.mk c1.2 c2.2 c3.2 c4.2).chk, l ++ [⟨c1.2, c2.2, c3.2, c4.2⟩], u2) ⟨by simp only; omega, by simp; omega, hstep.trans hrec⟩ (by simp only; omega) (by simp [e5]) (by simp [e7, Ord.cells, i64c])
      · have hb := out (by cases hn2 : N.2.toNat - k <;> simp [In.ords, he])
        simp [hkn, he, hb]
    · have hb := out (by rw [show N.2.toNat - k = 0 by omega]; rfl)
      by_cases he : i1.e = 0
      · simp [hkn, he, hb]
      · simp [hkn, he, hb]
  · obtain ⟨u, rfl, rfl⟩ := hh
    refine VLx.frz 21 rfl (VLx.done ?_)
    have : List.take (i.bat.2.length * 4) (rowC i.bat.2) = rowC i.bat.2 := List.take_of_length_le (by simp)
    simp [this]

set_option maxHeartbeats 2000000 in
set_option maxRecDepth 100000 in
theorem ChgsR_T (i : In) : callT Try.prog 73 [rIn i] ⟨[], []⟩ (fun x h => x = .tup [rIn (In.chgs (i.count 8).2.toNat (i.count 8).1 []).1, .isl (rowG (In.chgs (i.count 8).2.toNat (i.count 8).1 []).2) (In.chgs (i.count 8).2.toNat (i.count 8).1 []).2.length] ∧ h = []) := by
  obtain ⟨B, hB⟩ : ∃ B, In.chgs (i.count 8).2.toNat (i.count 8).1 [] = B := ⟨_, rfl⟩
  rw [hB]
  refine callT.mono (K := fun x h => ∃ u, x = .tup [rIn B.1, .sl 14 u 0 B.2.length] ∧ h = [(14, u, ⟨3, rowG B.2⟩)]) ?_ fun x h hh => ?_
  · refine callT_of_body [0, 1, 2, 3, 4, 5, 6, 7, 8, 22] [14] Try.func73 rfl (by decide) (by kernel_rfl) rfl ?_
    have hn := i.count_le 8 (by decide)
    simp
    intro v1 v2
    refine callT_eq [] (TakeCountR_T i 8 (by decide)) ?_
    simp
    intro v14
    generalize hN : i.count 8 = N at hn hB
    refine loopT_of (Nat × In × List Chg × Nat) (fun x => x.1 ≤ N.2.toNat ∧ x.2.2.1.length ≤ x.1 ∧ In.chgs (N.2.toNat - x.1) x.2.1 x.2.2.1 = In.chgs N.2.toNat N.1 []) (fun x => ⟨[(1, .at 1 v1 0), (2, .at 2 v2 0), (4, .v (.int .i64 N.2)), (5, .sl 14 x.2.2.2 0 x.2.2.1.length), (6, .v (.int .i64 x.1))], [(1, v1, ⟨0, [.v (.string (bs x.2.1.l)), .v (.int .i64 x.2.1.e)]⟩), (2, v2, ⟨0, [.v (.string (bs [])), .v (.int .i64 0)]⟩), (14, x.2.2.2, ⟨3, rowG x.2.2.1⟩)]⟩) (fun x => N.2.toNat - x.1) (0, N.1, [], v14) ⟨by simp, by simp, rfl⟩ (by simp) (by simp) ?_
    rintro ⟨k, i1, l, u⟩ ⟨hk, hl, hrec⟩
    simp only at hk hl hrec ⊢
    have out : In.chgs (N.2.toNat - k) i1 l = (i1, l) → B = (i1, l) := fun h => by rw [← hB, ← hrec, h]
    by_cases hkn : (k : Int) < N.2
    · by_cases he : i1.e = 0
      · simp [hkn, he]
        refine callT_eq [] (RdChgR_T i1) ?_
        have e5 : IntKind.i64.wrap ((k : Int) + 1) = ((k + 1 : Nat) : Int) := by rw [i64_id (by omega) (by omega)]; rfl
        have hstep : In.chgs (N.2.toNat - (k + 1)) i1.chg.1 (l ++ [i1.chg.2]) = In.chgs (N.2.toNat - k) i1 l := by
          rw [show N.2.toNat - k = N.2.toNat - (k + 1) + 1 by omega, In.chgs, if_neg (by simp [he])]
        simp [Chg.cells, i64c]
        refine ⟨he.symm, fun v7 v8 v33 => ⟨by omega, by omega, fun u2 => ?_⟩⟩
        exact SLx.again (k + 1, i1.chg.1, l ++ [i1.chg.2], u2) ⟨by simp only; omega, by simp; omega, hstep.trans hrec⟩ (by simp only; omega) (by simp [e5]) (by simp [rowG_snoc, rowG_tk, Chg.cells, i64c])
      · have hb := out (by cases hn2 : N.2.toNat - k <;> simp [In.chgs, he])
        simp [hkn, he, hb]
    · have hb := out (by rw [show N.2.toNat - k = 0 by omega]; rfl)
      by_cases he : i1.e = 0
      · simp [hkn, he, hb]
      · simp [hkn, he, hb]
  · obtain ⟨u, rfl, rfl⟩ := hh
    refine VLx.frz 14 rfl (VLx.done ?_)
    simp [rowG_tk]

theorem VLx.nilT2R {h : Heap} {S : TV → Heap → Prop} {z a c d : TV} (k : VLx (.tup [z, .agg [a, .isl [] 0, c, d, .isl [] 0]]) h S) : VLx (.tup [z, .agg [a, .v (.slice none 0 0), c, d, .v (.slice none 0 0)]]) h S := fun e E w v H hv => by
  refine k e E w v H ?_
  simp only [RV, RVl] at hv ⊢
  obtain ⟨zs, e1, e2, e3, ⟨x0, x1, cs, h1, h2, ⟨y0, g0, k0⟩, ⟨y1, g1, k1⟩, ⟨y2, g2, k2⟩, ⟨y3, g3, k3⟩, ⟨y4, g4, k4⟩, h3⟩, e4⟩ := hv
  exact ⟨zs, e1, e2, e3, ⟨x0, x1, cs, h1, h2, ⟨y0, g0, k0⟩, ⟨y1, g1, .inl ⟨trivial, trivial, k1⟩⟩, ⟨y2, g2, k2⟩, ⟨y3, g3, k3⟩, ⟨y4, g4, .inl ⟨trivial, trivial, k4⟩⟩, h3⟩, e4⟩

set_option maxHeartbeats 4000000 in
set_option maxRecDepth 100000 in
theorem RcReadR_T (i : In) : callT Try.prog 48 [rIn i] ⟨[], []⟩ (fun x h => x = .tup [rIn i.rcd.1, .agg i.rcd.2.cells] ∧ h = []) := by
  refine callT.mono (K := fun x h => (i.rcd.1.e ≠ 0 ∧ x = .tup [rIn i.rcd.1, .agg [i64c 0, .v (.slice none 0 0), i64c 0, i64c 0, .v (.slice none 0 0)]] ∧ ∃ c, h = [(1001, c)]) ∨ (i.rcd.1.e = 0 ∧ ∃ u, x = .tup [rIn i.rcd.1, .agg [i64c i.rcd.2.t, .isl (rowG i.rcd.2.c) i.rcd.2.c.length, i64c i.rcd.2.pt, i64c i.rcd.2.pd, .sl 1001 u 0 i.rcd.2.l.length]] ∧ h = [(1001, u, ⟨2, rowP i.rcd.2.l⟩)])) ?_ fun x h hh => ?_
  · refine callT_of_body [0, 1, 2, 3, 4, 5, 6, 7, 8, 9, 10, 11, 12, 13, 14, 53, 77] [1001] Try.func48 rfl (by decide) (by kernel_rfl) rfl ?_
    simp
    intro v1 v2 v3
    refine callT_eq [] (TakeCountR_T i 1099511627776 (by decide)) ?_
    simp
    refine callT_eq [] (ChgsR_T (i.count 1099511627776).1) ?_
    generalize hC : In.chgs ((i.count 1099511627776).1.count 8).2.toNat ((i.count 1099511627776).1.count 8).1 [] = C
    simp
    refine callT_eq [] (TakeCountR_T C.1 64 (by decide)) ?_
    simp
    refine callT_eq [] (TakeCountR_T (C.1.count 64).1 6 (by decide)) ?_
    simp
    refine callT_eq [] (TakeCountR_T ((C.1.count 64).1.count 6).1 32 (by decide)) ?_
    have hm := ((C.1.count 64).1.count 6).1.count_rng' 32 (by decide)
    generalize hM : ((C.1.count 64).1.count 6).1.count 32 = M at hm
    have hR : i.rcd = if (In.plys M.2.toNat M.1 []).1.e ≠ 0 then ((In.plys M.2.toNat M.1 []).1, ⟨0, [], 0, 0, []⟩) else ((In.plys M.2.toNat M.1 []).1, ⟨(i.count 1099511627776).2, C.2, (C.1.count 64).2, ((C.1.count 64).1.count 6).2, (In.plys M.2.toNat M.1 []).2⟩) := by
      simp only [In.rcd, hC, hM]
    simp
    intro v9
    refine ⟨Nat × In × List Ply × List Ply × Nat, fun x => x.1 ≤ M.2.toNat ∧ x.2.2.1.length ≤ x.1 ∧ (x.2.1.e = 0 → x.2.2.1 = x.2.2.2.1) ∧ In.plys (M.2.toNat - x.1) x.2.1 x.2.2.2.1 = In.plys M.2.toNat M.1 [], fun x => ⟨[(1, .at 1 v1 0), (2, .at 2 v2 0), (3, .at 3 v3 0), (8, .v (.int .i64 M.2)), (9, .at 9 v9 0), (10, .v (.int .i64 x.1))], [(1, v1, ⟨0, [.v (.string (bs x.2.1.l)), .v (.int .i64 x.2.1.e)]⟩), (2, v2, ⟨0, [.v (.string (bs [])), .v (.int .i64 0)]⟩), (3, v3, ⟨0, [i64c 0, .v (.slice none 0 0), i64c 0, i64c 0, .v (.slice none 0 0)]⟩), (9, v9, ⟨0, [i64c (i.count 1099511627776).2, .isl (rowG C.2) C.2.length, i64c (C.1.count 64).2, i64c ((C.1.count 64).1.count 6).2, .sl 1001 x.2.2.2.2 0 x.2.2.1.length]⟩), (1001, x.2.2.2.2, ⟨2, rowP x.2.2.1⟩)]⟩, fun x => M.2.toNat - x.1, ?_, ?_⟩
    · refine SLx.nilCell 9 4 1001 2 (by decide) (by decide) rfl rfl fun u => SLx.fin _ ⟨(0, M.1, [], [], u), ⟨by simp, by simp, fun _ => rfl, rfl⟩, rfl⟩ ?_ ?_
      · simp
      · simp [i64c, setH]
    rintro ⟨k, i1, p, pp, u⟩ ⟨hk, hp, hpp, hrec⟩
    simp only at hk hp hpp hrec ⊢
    have out : In.plys (M.2.toNat - k) i1 pp = (i1, pp) → i.rcd = if i1.e ≠ 0 then (i1, ⟨0, [], 0, 0, []⟩) else (i1, ⟨(i.count 1099511627776).2, C.2, (C.1.count 64).2, ((C.1.count 64).1.count 6).2, pp⟩) := fun h => by
      rw [hR, ← hrec, h]
    by_cases hkn : (k : Int) < M.2
    · by_cases he : i1.e = 0
      · have hep := hpp he
        subst hep
        simp [hkn, he]
        refine callT_eq [] (TakeCountR_T i1 31 (by decide)) ?_
        have e5 : IntKind.i64.wrap ((k : Int) + 1) = ((k + 1 : Nat) : Int) := by rw [i64_id (by omega) (by omega)]; rfl
        have hstep : In.plys (M.2.toNat - (k + 1)) i1.ply.1 (p ++ [i1.ply.2]) = In.plys (M.2.toNat - k) i1 p := by
          rw [show M.2.toNat - k = M.2.toNat - (k + 1) + 1 by omega, In.plys, if_neg (by simp [he])]
        have hb1 : i1.ply.1 = (i1.count 31).1.bat.1 := rfl
        have hb2 : (i1.count 31).1.bat.1.e = 0 → p ++ [⟨(i1.count 31).2, (i1.count 31).1.bat.2⟩] = p ++ [i1.ply.2] := fun h => by
          simp only [In.ply, batch_bat]
          rw [if_neg (by simp [h])]
        rw [hb1] at hstep
        simp [i64c]
        refine ⟨he.symm, fun v11 => ?_⟩
        refine callT_eq [] (Rd9R_T (i1.count 31).1) ?_
        simp [i64c]
        refine fun v13 v72 => ⟨by omega, by omega, fun u2 => ?_⟩
        exact SLx.again (k + 1, (i1.count 31).1.bat.1, p ++ [⟨(i1.count 31).2, (i1.count 31).1.bat.2⟩], p ++ [i1.ply.2], u2) ⟨by simp only; omega, by simp; omega, hb2, hstep.trans hrec⟩ (by simp only; omega) (by simp [e5]) (by simp [rowP_snoc, rowP_tk, Ply.cells, i64c])
      · have hb := out (by cases hn2 : M.2.toNat - k <;> simp [In.plys, he])
        simp [hkn, he, hb, i64c]
    · have hb := out (by rw [show M.2.toNat - k = 0 by omega]; rfl)
      by_cases he : i1.e = 0
      · have hep := hpp he
        subst hep
        simp [hkn, he]
        refine draw_g [0, 1, 2] 3 [(2, [0])] (by kernel_rfl) (by kernel_rfl) (by kernel_rfl) ?_
        simp [he, hb, i64c]
      · simp [hkn, he, hb, i64c]
  · rcases hh with ⟨h1, rfl, c, rfl⟩ | ⟨h1, u, rfl, rfl⟩
    · have hz : i.rcd.2 = ⟨0, [], 0, 0, []⟩ := by
        unfold In.rcd at h1 ⊢
        simp only at h1 ⊢
        split
        · rfl
        · rename_i hh; rw [if_neg hh] at h1; exact absurd h1 hh
      refine VLx.nilT2R (VLx.sub [] (by simp [getH]) (VLx.done ⟨?_, rfl⟩))
      rw [hz]; rfl
    · refine VLx.frz 1001 rfl (VLx.done ?_)
      simp [Rec.cells, i64c, rowP_tk]
end Go.Proofs.Ytkggjmoghpmelaa.TL
