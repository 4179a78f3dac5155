/- A change, a roster, read of bytes. -/
import Derived.Test.YtkggjmoghpmelaaUIn
import Derived.Test.YtkggjmoghpmelaaURos
import Derived.Test.YtkggjmoghpmelaaTD
namespace Go.Proofs.Ytkggjmoghpmelaa.TL
open Go
set_option linter.unusedVariables false
set_option linter.unusedSimpArgs false

theorem In.count_rng' (i : In) (m : Int) (hm : 0 ≤ m) : 0 ≤ (i.count m).2 ∧ (i.count m).2 ≤ m := by
  unfold In.count
  split
  · exact ⟨Int.le_refl _, hm⟩
  · exact ⟨by simp, by simp only; omega⟩
def In.ros (i : In) : In × Ros :=
  let a := i.count 4294967295
  let b := a.1.count 1099511627776
  if b.1.e ≠ 0 then (b.1, ⟨0, 0⟩) else (b.1, ⟨a.2.toNat, b.2⟩)

theorem VLx.nilA {h : Heap} {S : TV → Heap → Prop} {a b : TV} (k : VLx (.agg [a, b, .isl [] 0]) h S) : VLx (.agg [a, b, .v (.slice none 0 0)]) h S := fun e E w v H hv => by
  refine k e E w v H ?_
  simp only [RV, RVl] at hv ⊢
  obtain ⟨cs, h1, h2, ⟨y0, g0, k0⟩, ⟨y1, g1, k1⟩, ⟨y2, g2, k2⟩, h3⟩ := hv
  exact ⟨cs, h1, h2, ⟨y0, g0, k0⟩, ⟨y1, g1, k1⟩, ⟨y2, g2, .inl ⟨trivial, trivial, k2⟩⟩, h3⟩
def In.vot : Nat → In → List Int → In × List Int
  | 0, i, l => (i, l)
  | n + 1, i, l => if i.e ≠ 0 then (i, l) else In.vot n (i.count 31).1 (l ++ [(i.count 31).2])
def In.chg (i : In) : In × Chg :=
  let k := i.count 3
  let p := k.1.count 31
  let n := p.1.count 32
  let q := In.vot n.2.toNat n.1 []
  if q.1.e ≠ 0 then (q.1, ⟨0, 0, []⟩) else (q.1, ⟨k.2, p.2, q.2⟩)

set_option maxHeartbeats 1000000 in
set_option maxRecDepth 100000 in
theorem RdChg_T (v : Nat) (i : In) : callT Try.prog 66 [.at 1000 v 0] ⟨[], [(1000, v, inB i)]⟩ (fun x h => x = .agg i.chg.2.cells ∧ h = [(1000, v, inB i.chg.1)]) := by
  refine callT.mono (K := fun x h => (i.chg.1.e ≠ 0 ∧ x = .agg [i64c 0, i64c 0, .v (.slice none 0 0)] ∧ ∃ c, h = [(1000, v, inB i.chg.1), (1001, c)]) ∨ (i.chg.1.e = 0 ∧ ∃ u, x = .agg [i64c i.chg.2.k, i64c i.chg.2.p, .sl 1001 u 0 i.chg.2.v.length] ∧ h = [(1000, v, inB i.chg.1), (1001, u, ⟨1, i.chg.2.v.map i64c⟩)])) ?_ fun x h hh => ?_
  · refine callT_of_body [0, 2, 3, 4, 18, 30] [1000, 1001] Try.func66 rfl (by decide) (by kernel_rfl) rfl ?_
    have hn := ((i.count 3).1.count 31).1.count_rng' 32 (by decide)
    simp
    intro v2
    refine callT_eq [(1000, 1000)] (Count_T v i 3 (by decide)) ?_
    simp
    refine callT_eq [(1000, 1000)] (Count_T v (i.count 3).1 31 (by decide)) ?_
    simp
    intro v3
    refine callT_eq [(1000, 1000)] (Count_T v ((i.count 3).1.count 31).1 32 (by decide)) ?_
    simp
    generalize hN : ((i.count 3).1.count 31).1.count 32 = N at hn
    refine ⟨Nat × In × List Int × Nat, fun x => x.1 + x.2.2.1.length ≤ 32 ∧ In.vot x.1 x.2.1 x.2.2.1 = In.vot N.2.toNat N.1 [], fun x => ⟨[(0, .at 1000 v 0), (2, .at 2 v2 0), (3, .at 3 v3 0), (4, .v (.int .i64 x.1))], [(1000, v, inB x.2.1), (2, v2, ⟨0, [i64c 0, i64c 0, .v (.slice none 0 0)]⟩), (3, v3, ⟨0, [i64c (i.count 3).2, i64c ((i.count 3).1.count 31).2, .sl 1001 x.2.2.2 0 x.2.2.1.length]⟩), (1001, x.2.2.2, ⟨1, x.2.2.1.map i64c⟩)]⟩, fun x => x.1, ?_, ?_⟩
    · refine SLx.nilCell 3 2 1001 1 (by decide) (by decide) rfl rfl fun u => SLx.fin _ ⟨(N.2.toNat, N.1, [], u), ⟨by simp only [List.length_nil]; omega, rfl⟩, rfl⟩ ?_ ?_
      · simp; omega
      · simp [i64c, setH]
    rintro ⟨n, i1, l, u⟩ ⟨hnl, hvot⟩
    simp only at hnl hvot ⊢
    have out : In.vot n i1 l = (i1, l) → i.chg = if i1.e ≠ 0 then (i1, ⟨0, 0, []⟩) else (i1, ⟨(i.count 3).2, ((i.count 3).1.count 31).2, l⟩) := fun h => by
      simp only [In.chg, hN, ← hvot, h]
    cases n with
    | zero =>
      have hb := out rfl
      simp
      refine callT_eq [(1000, 1000)] (Err_T v i1) ?_
      by_cases h5 : i1.e = 0
      · simp [hb, h5, i64c]
      · simp [hb, h5, i64c]
    | succ n =>
      have hn0 : (0 : Int) < (n : Int) + 1 := by omega
      simp [hn0]
      refine callT_eq [(1000, 1000)] (Err_T v i1) ?_
      by_cases he : i1.e ≠ 0
      · have hb := out (by simp [In.vot, he])
        simp [he]
        refine callT_eq [(1000, 1000)] (Err_T v i1) ?_
        simp [hb, he, i64c]
      have he0 : i1.e = 0 := by simpa using he
      have e6 : IntKind.i64.wrap ((n : Int) + 1 - 1) = (n : Int) := by rw [i64_id (by omega) (by omega)]; omega
      simp [he0]
      refine draw_g [0, 1, 2, 3, 4] 5 [(3, [2])] (by kernel_rfl) (by kernel_rfl) (by kernel_rfl) ?_
      simp [he0]
      refine callT_eq [(1000, 1000)] (Count_T v i1 31 (by decide)) ?_
      have hrec : In.vot n (i1.count 31).1 (l ++ [(i1.count 31).2]) = In.vot (n + 1) i1 l := by rw [In.vot, if_neg (by simp [he0])]
      simp [i64c]
      refine ⟨he0.symm, by omega, by omega, fun u2 => ?_⟩
      have e7 : IntKind.i64.wrap (n : Int) = (n : Int) := i64_id (by omega) (by omega)
      exact SLx.again (n, (i1.count 31).1, l ++ [(i1.count 31).2], u2) ⟨by simp; omega, hrec.trans hvot⟩ (by simp only; omega) (by simp [e7]) (by simp [i64c])
  · rcases hh with ⟨h1, rfl, c, rfl⟩ | ⟨h1, u, rfl, rfl⟩
    · have hz : i.chg.2 = ⟨0, 0, []⟩ := by
        unfold In.chg at h1 ⊢
        simp only at h1 ⊢
        split
        · rfl
        · rename_i hh; rw [if_neg hh] at h1; exact absurd h1 hh
      refine VLx.nilA (VLx.sub [(1000, v, inB i.chg.1)] (by simp [getH]) (VLx.done ⟨?_, rfl⟩))
      rw [hz]; rfl
    · refine VLx.frz 1001 rfl (VLx.done ?_)
      simp [Chg.cells, i64c]
end Go.Proofs.Ytkggjmoghpmelaa.TL
