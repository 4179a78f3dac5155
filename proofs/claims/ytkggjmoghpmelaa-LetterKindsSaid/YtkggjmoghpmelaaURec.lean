/- Records: read of bytes. -/
import Derived.Test.YtkggjmoghpmelaaURead
import Derived.Test.YtkggjmoghpmelaaURosI
import Derived.Test.YtkggjmoghpmelaaURosX
import Derived.Test.YtkggjmoghpmelaaTD
namespace Go.Proofs.Ytkggjmoghpmelaa.TL
open Go
set_option linter.unusedVariables false
set_option linter.unusedSimpArgs false

/-- A play of a player; a record. -/
structure Ply where
  p : Int
  b : List Ord
def Ply.cells (c : Ply) : List TV := [i64c c.p, .isl (rowC c.b) c.b.length]
def rowP (l : List Ply) : List TV := (l.map Ply.cells).flatten
@[simp] theorem rowP_nil : rowP [] = [] := rfl
@[simp] theorem rowP_cons (o : Ply) (l : List Ply) : rowP (o :: l) = o.cells ++ rowP l := rfl
@[simp] theorem rowP_length : ∀ l : List Ply, (rowP l).length = l.length * 2
  | [] => rfl
  | o :: l => by rw [rowP_cons, List.length_append, rowP_length l, List.length_cons, show o.cells.length = 2 from rfl]; omega
@[simp] theorem rowP_CloL : ∀ l : List Ply, CloL (rowP l)
  | [] => trivial
  | o :: l => ⟨trivial, ⟨rowC_CloL o.b, rowP_CloL l⟩⟩
theorem rowP_drop : ∀ (n : Nat) (l : List Ply), (rowP l).drop (n * 2) = rowP (l.drop n)
  | 0, l => by simp
  | n + 1, [] => by simp [rowP]
  | n + 1, c :: l => by
    rw [show (n + 1) * 2 = n * 2 + 2 by omega]
    have := rowP_drop n l
    simpa [rowP, Ply.cells] using this
theorem rowP_at {l : List Ply} {k : Nat} (h : k < l.length) : List.drop (k * 2) (rowP l) = i64c l[k].p :: .isl (rowC l[k].b) l[k].b.length :: rowP (l.drop (k + 1)) := by
  rw [rowP_drop, List.drop_eq_getElem_cons h]
  rfl
theorem rowP_snoc (l : List Ply) (c : Ply) : rowP (l ++ [c]) = rowP l ++ c.cells := by simp [rowP]
theorem rowP_tk (l : List Ply) : List.take (l.length * 2) (rowP l) = rowP l := List.take_of_length_le (by simp)
theorem rowG_tk (l : List Chg) : List.take (l.length * 3) (rowG l) = rowG l := List.take_of_length_le (by simp)
structure Rec where
  t : Int
  c : List Chg
  pt : Int
  pd : Int
  l : List Ply
def Rec.cells (r : Rec) : List TV := [i64c r.t, .isl (rowG r.c) r.c.length, i64c r.pt, i64c r.pd, .isl (rowP r.l) r.l.length]

def In.chgs : Nat → In → List Chg → In × List Chg
  | 0, i, l => (i, l)
  | n + 1, i, l => if i.e ≠ 0 then (i, l) else In.chgs n i.chg.1 (l ++ [i.chg.2])
def In.ply (i : In) : In × Ply := ((i.count 31).1.batch.1, ⟨(i.count 31).2, (i.count 31).1.batch.2⟩)
def In.plys : Nat → In → List Ply → In × List Ply
  | 0, i, l => (i, l)
  | n + 1, i, l => if i.e ≠ 0 then (i, l) else In.plys n i.ply.1 (l ++ [i.ply.2])
def In.rcd (i : In) : In × Rec :=
  let t := i.count 1099511627776
  let n := t.1.count 8
  let c := In.chgs n.2.toNat n.1 []
  let pt := c.1.count 64
  let pd := pt.1.count 6
  let m := pd.1.count 32
  let l := In.plys m.2.toNat m.1 []
  if l.1.e ≠ 0 then (l.1, ⟨0, [], 0, 0, []⟩) else (l.1, ⟨t.2, c.2, pt.2, pd.2, l.2⟩)

theorem VLx.nilR {h : Heap} {S : TV → Heap → Prop} {a c d : TV} (k : VLx (.agg [a, .isl [] 0, c, d, .isl [] 0]) h S) : VLx (.agg [a, .v (.slice none 0 0), c, d, .v (.slice none 0 0)]) h S := fun e E w v H hv => by
  refine k e E w v H ?_
  simp only [RV, RVl] at hv ⊢
  obtain ⟨cs, h1, h2, ⟨y0, g0, k0⟩, ⟨y1, g1, k1⟩, ⟨y2, g2, k2⟩, ⟨y3, g3, k3⟩, ⟨y4, g4, k4⟩, h3⟩ := hv
  exact ⟨cs, h1, h2, ⟨y0, g0, k0⟩, ⟨y1, g1, .inl ⟨trivial, trivial, k1⟩⟩, ⟨y2, g2, k2⟩, ⟨y3, g3, k3⟩, ⟨y4, g4, .inl ⟨trivial, trivial, k4⟩⟩, h3⟩

theorem In.count_err {i : In} (h : i.e ≠ 0) (m : Int) : i.count m = (i, 0) := by
  have hn : i.num = (i, 0) := by unfold In.num; rw [if_pos h]
  unfold In.count
  rw [hn]
  have : ¬ max m 0 < (((0 : Nat) : Int)) := by omega
  simp only
  rw [if_neg this]
  rfl
set_option maxHeartbeats 2000000 in
set_option maxRecDepth 100000 in
theorem RcRead_T (v : Nat) (i : In) : callT Try.prog 43 [.at 1000 v 0] ⟨[], [(1000, v, inB i)]⟩ (fun x h => x = .agg i.rcd.2.cells ∧ h = [(1000, v, inB i.rcd.1)]) := by
  refine callT.mono (K := fun x h => (i.rcd.1.e ≠ 0 ∧ x = .agg [i64c 0, .v (.slice none 0 0), i64c 0, i64c 0, .v (.slice none 0 0)] ∧ ∃ c d, h = [(1000, v, inB i.rcd.1), (1001, c), (1002, d)]) ∨ (i.rcd.1.e = 0 ∧ ∃ u u2, x = .agg [i64c i.rcd.2.t, .sl 1001 u 0 i.rcd.2.c.length, i64c i.rcd.2.pt, i64c i.rcd.2.pd, .sl 1002 u2 0 i.rcd.2.l.length] ∧ h = [(1000, v, inB i.rcd.1), (1001, u, ⟨3, rowG i.rcd.2.c⟩), (1002, u2, ⟨2, rowP i.rcd.2.l⟩)])) ?_ fun x h hh => ?_
  · refine callT_of_body [0, 2, 3, 4, 5, 17, 41, 56] [1000, 1001, 1002] Try.func43 rfl (by decide) (by kernel_rfl) rfl ?_
    have hn := (i.count 1099511627776).1.count_rng' 8 (by decide)
    simp
    intro v2
    refine callT_eq [(1000, 1000)] (Count_T v i 1099511627776 (by decide)) ?_
    simp
    intro v3
    refine callT_eq [(1000, 1000)] (Count_T v (i.count 1099511627776).1 8 (by decide)) ?_
    simp
    generalize hN : (i.count 1099511627776).1.count 8 = N at hn
    refine ⟨Nat × In × List Chg × Nat, fun x => x.1 + x.2.2.1.length ≤ 8 ∧ In.chgs x.1 x.2.1 x.2.2.1 = In.chgs N.2.toNat N.1 [], fun x => ⟨[(0, .at 1000 v 0), (2, .at 2 v2 0), (3, .at 3 v3 0), (4, .v (.int .i64 x.1))], [(1000, v, inB x.2.1), (2, v2, ⟨0, [i64c 0, .v (.slice none 0 0), i64c 0, i64c 0, .v (.slice none 0 0)]⟩), (3, v3, ⟨0, [i64c (i.count 1099511627776).2, .sl 1001 x.2.2.2 0 x.2.2.1.length, i64c 0, i64c 0, .v (.slice none 0 0)]⟩), (1001, x.2.2.2, ⟨3, rowG x.2.2.1⟩)]⟩, fun x => x.1, ?_, ?_⟩
    · refine SLx.nilCell 3 1 1001 3 (by decide) (by decide) rfl rfl fun u => SLx.fin _ ⟨(N.2.toNat, N.1, [], u), ⟨by simp only [List.length_nil]; omega, rfl⟩, rfl⟩ ?_ ?_
      · simp; omega
      · simp [i64c, setH]
    rintro ⟨n, i1, l, u⟩ ⟨hnl, hch⟩
    simp only at hnl hch ⊢
    cases n with
    | succ n =>
      simp
      refine callT_eq [(1000, 1000)] (Err_T v i1) ?_
      by_cases he : i1.e = 0
      · have e4 : IntKind.i64.wrap (n : Int) = n := i64_id (by omega) (by omega)
        simp [he]
        refine draw_g [0, 1, 2, 3, 4] 5 [(3, [2])] (by kernel_rfl) (by kernel_rfl) (by kernel_rfl) ?_
        simp
        refine callT_eq [(1000, 1000)] (RdChg_T v i1) ?_
        simp [Chg.cells, i64c]
        refine ⟨he.symm, by omega, by omega, fun u2 => ?_⟩
        refine SLx.again (n, i1.chg.1, l ++ [i1.chg.2], u2) ⟨by simp; omega, ?_⟩ (by simp only; omega) (by simp [e4]) (by simp [i64c, rowG_snoc, rowG_tk, Chg.cells])
        rw [← hch]
        simp [In.chgs, he]
      · have hc2 : In.chgs N.2.toNat N.1 [] = (i1, l) := by rw [← hch]; simp [In.chgs, he]
        have hb : i.rcd = (i1, ⟨0, [], 0, 0, []⟩) := by
          simp only [In.rcd, hN, hc2, In.count_err he, Int.toNat_zero, In.plys]
          rw [if_pos he]
        simp [he]
        refine callT_eq [(1000, 1000)] (Count_T v i1 64 (by decide)) ?_
        simp [In.count_err he]
        refine callT_eq [(1000, 1000)] (Count_T v i1 6 (by decide)) ?_
        simp [In.count_err he]
        refine callT_eq [(1000, 1000)] (Count_T v i1 32 (by decide)) ?_
        simp [In.count_err he]
        refine ⟨Nat × Nat, fun x => True, fun x => ⟨[(0, .at 1000 v 0), (2, .at 2 v2 0), (3, .at 3 v3 0), (5, .v (.int .i64 0))], [(1000, v, inB i1), (2, v2, ⟨0, [i64c 0, .v (.slice none 0 0), i64c 0, i64c 0, .v (.slice none 0 0)]⟩), (1001, u, ⟨3, rowG l⟩), (1002, x.2, ⟨2, []⟩)]⟩, fun x => 0, ?_, ?_⟩
        · refine SLx.nilCell 3 4 1002 2 (by decide) (by decide) rfl rfl fun u2 => SLx.fin _ ⟨(0, u2), trivial, rfl⟩ (by simp) (by simp [i64c, setH])
        rintro ⟨z, u2⟩ -
        simp
        refine callT_eq [(1000, 1000)] (Err_T v i1) ?_
        simp [he, hb, i64c]
    | zero =>
      have hc2 : In.chgs N.2.toNat N.1 [] = (i1, l) := by rw [← hch]; rfl
      simp
      refine callT_eq [(1000, 1000)] (Count_T v i1 64 (by decide)) ?_
      simp
      refine callT_eq [(1000, 1000)] (Count_T v (i1.count 64).1 6 (by decide)) ?_
      simp
      refine callT_eq [(1000, 1000)] (Count_T v ((i1.count 64).1.count 6).1 32 (by decide)) ?_
      simp
      have hm := ((i1.count 64).1.count 6).1.count_rng' 32 (by decide)
      generalize hM : ((i1.count 64).1.count 6).1.count 32 = M at hm
      have hR : i.rcd = if (In.plys M.2.toNat M.1 []).1.e ≠ 0 then ((In.plys M.2.toNat M.1 []).1, ⟨0, [], 0, 0, []⟩) else ((In.plys M.2.toNat M.1 []).1, ⟨(i.count 1099511627776).2, l, (i1.count 64).2, ((i1.count 64).1.count 6).2, (In.plys M.2.toNat M.1 []).2⟩) := by
        simp only [In.rcd, hN, hc2, hM]
      refine ⟨Nat × In × List Ply × Nat, fun x => x.1 + x.2.2.1.length ≤ 32 ∧ In.plys x.1 x.2.1 x.2.2.1 = In.plys M.2.toNat M.1 [], fun x => ⟨[(0, .at 1000 v 0), (2, .at 2 v2 0), (3, .at 3 v3 0), (5, .v (.int .i64 x.1))], [(1000, v, inB x.2.1), (2, v2, ⟨0, [i64c 0, .v (.slice none 0 0), i64c 0, i64c 0, .v (.slice none 0 0)]⟩), (3, v3, ⟨0, [i64c (i.count 1099511627776).2, .sl 1001 u 0 l.length, i64c (i1.count 64).2, i64c ((i1.count 64).1.count 6).2, .sl 1002 x.2.2.2 0 x.2.2.1.length]⟩), (1001, u, ⟨3, rowG l⟩), (1002, x.2.2.2, ⟨2, rowP x.2.2.1⟩)]⟩, fun x => x.1, ?_, ?_⟩
      · refine SLx.nilCell 3 4 1002 2 (by decide) (by decide) rfl rfl fun u2 => SLx.fin _ ⟨(M.2.toNat, M.1, [], u2), ⟨by simp only [List.length_nil]; omega, rfl⟩, rfl⟩ ?_ ?_
        · simp; omega
        · simp [i64c, setH]
      rintro ⟨n, i2, p, u2⟩ ⟨hnp, hpl⟩
      simp only at hnp hpl ⊢
      have out : In.plys n i2 p = (i2, p) → i.rcd = if i2.e ≠ 0 then (i2, ⟨0, [], 0, 0, []⟩) else (i2, ⟨(i.count 1099511627776).2, l, (i1.count 64).2, ((i1.count 64).1.count 6).2, p⟩) := fun h => by
        rw [hR, ← hpl, h]
      cases n with
      | zero =>
        have hb := out rfl
        simp
        refine callT_eq [(1000, 1000)] (Err_T v i2) ?_
        by_cases he : i2.e = 0
        · simp [he, hb, i64c]
        · simp [he, hb, i64c]
      | succ n =>
        simp
        refine callT_eq [(1000, 1000)] (Err_T v i2) ?_
        by_cases he : i2.e = 0
        · have e4 : IntKind.i64.wrap (n : Int) = n := i64_id (by omega) (by omega)
          simp [he]
          refine draw_g [0, 1, 2, 4, 3, 5, 6, 7] 8 [(3, [2]), (5, [2, 3, 4])] (by kernel_rfl) (by kernel_rfl) (by kernel_rfl) ?_
          simp
          refine callT_eq [(1000, 1000)] (Count_T v i2 31 (by decide)) ?_
          simp [i64c]
          refine ⟨he.symm, ?_⟩
          refine callT_eq [(1000, 1000)] (Read_T v (i2.count 31).1) ?_
          simp [i64c]
          refine ⟨by omega, by omega, fun u3 => ?_⟩
          refine SLx.again (n, i2.ply.1, p ++ [i2.ply.2], u3) ⟨by simp; omega, ?_⟩ (by simp only; omega) (by simp [e4, In.ply]) (by simp [i64c, rowP_snoc, rowP_tk, Ply.cells, In.ply])
          rw [← hpl]
          simp [In.plys, he]
        · have hb := out (by simp [In.plys, he])
          simp [he]
          refine callT_eq [(1000, 1000)] (Err_T v i2) ?_
          simp [he, hb, i64c]
  · rcases hh with ⟨h1, rfl, c, d, rfl⟩ | ⟨h1, u, u2, rfl, rfl⟩
    · have hz : i.rcd.2 = ⟨0, [], 0, 0, []⟩ := by
        unfold In.rcd at h1 ⊢
        simp only at h1 ⊢
        split
        · rfl
        · rename_i hh; rw [if_neg hh] at h1; exact absurd h1 hh
      refine VLx.nilR (VLx.sub [(1000, v, inB i.rcd.1)] (by simp [getH]) (VLx.done ⟨?_, rfl⟩))
      rw [hz]; rfl
    · refine VLx.frz 1001 rfl (VLx.frz 1002 rfl (VLx.done ?_))
      simp [Rec.cells, i64c, rowP_tk, rowG_tk]
end Go.Proofs.Ytkggjmoghpmelaa.TL
