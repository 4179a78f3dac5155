/- Batches of orders: read of bytes. -/
import Derived.Test.YtkggjmoghpmelaaUPut
import Derived.Test.YtkggjmoghpmelaaUIn
namespace Go.Proofs.Ytkggjmoghpmelaa.TL
open Go
set_option linter.unusedVariables false
set_option linter.unusedSimpArgs false

def In.ord (i : In) : In × Ord :=
  let c1 := i.count 4
  let c2 := c1.1.count 1099511627776
  let c3 := c2.1.int
  let c4 := c3.1.int
  let o : Ord := ⟨c1.2, c2.2, c3.2, c4.2⟩
  (c4.1.fail o.chk, o)
def In.ords : Nat → In → List Ord → In × List Ord
  | 0, i, l => (i, l)
  | n + 1, i, l => if i.e ≠ 0 then (i, l) else ords n i.ord.1 (l ++ [i.ord.2])
def In.batch (i : In) : In × List Ord :=
  let p := i.count 8
  let q := In.ords p.2.toNat p.1 []
  (q.1, if q.1.e ≠ 0 then [] else q.2)

theorem In.count_le (i : In) (m : Int) (hm : 0 ≤ m) : 0 ≤ (i.count m).2 ∧ (i.count m).2 ≤ m := by
  unfold In.count
  split
  · exact ⟨Int.le_refl _, hm⟩
  · exact ⟨by simp, by simp only; omega⟩

/-- The nil slice as one that never changes. -/
theorem VLx.nil {h : Heap} {S : TV → Heap → Prop} (k : S (.isl [] 0) h) : VLx (.v (.slice none 0 0)) h S := fun e E w v H hv => by
  simp only [RV] at hv
  exact ⟨_, h, E, k, Env.Le.refl E, H, by simp only [RV]; exact .inl ⟨trivial, trivial, hv⟩⟩

set_option maxRecDepth 100000 in
theorem Read_T (v : Nat) (i : In) : callT Try.prog 42 [.at 1000 v 0] ⟨[], [(1000, v, inB i)]⟩
    (fun r h => r = .isl (rowC i.batch.2) i.batch.2.length ∧ h = [(1000, v, inB i.batch.1)]) := by
  refine callT.mono (K := fun r h => (i.batch.1.e ≠ 0 ∧ r = .v (.slice none 0 0) ∧ ∃ u l, h = [(1000, v, inB i.batch.1), (33, u, ⟨4, rowC l⟩)]) ∨ (i.batch.1.e = 0 ∧ ∃ u, r = .sl 33 u 0 i.batch.2.length ∧ h = [(1000, v, inB i.batch.1), (33, u, ⟨4, rowC i.batch.2⟩)])) ?_ fun r h hh => ?_
  · refine callT_of_body [0, 2, 3, 4, 5, 14, 36] [1000, 33] Try.func42 rfl (by decide) (by kernel_rfl) rfl ?_
    simp
    refine callT_eq [(1000, 1000)] (Count_T v i 8 (by decide)) ?_
    simp
    have h8 := In.count_le i 8 (by decide)
    refine ⟨Nat × In × List Ord × Nat, fun x => x.1 + x.2.2.1.length ≤ 8 ∧ In.ords x.1 x.2.1 x.2.2.1 = In.ords (i.count 8).2.toNat (i.count 8).1 [], fun x => ⟨[(0, .at 1000 v 0), (3, .sl 33 x.2.2.2 0 x.2.2.1.length), (4, .v (.int .i64 x.1))], [(1000, v, inB x.2.1), (33, x.2.2.2, ⟨4, rowC x.2.2.1⟩)]⟩, fun x => x.1, ?_, ?_⟩
    · refine SLx.nil 3 33 4 (by decide) (by simp) fun u => SLx.fin _ ⟨((i.count 8).2.toNat, (i.count 8).1, [], u), ⟨by simp; omega, rfl⟩, rfl⟩ (by simp; omega) (by simp)
    · rintro ⟨n, i1, l, u⟩ ⟨hn8, hrec⟩
      simp only at hn8 hrec ⊢
      have out : In.ords n i1 l = (i1, l) → i.batch = (i1, if i1.e ≠ 0 then [] else l) := fun h => by
        simp only [In.batch, ← hrec, h]
      cases n with
      | zero =>
        have hb := out rfl
        simp
        refine callT_eq [(1000, 1000)] (Err_T v i1) ?_
        by_cases he : i1.e = 0
        · simp [hb, he]
        · simp [hb, he]
          exact ⟨_, rfl⟩
      | succ n =>
        simp
        refine callT_eq [(1000, 1000)] (Err_T v i1) ?_
        by_cases he : i1.e = 0
        · obtain ⟨li, ei⟩ := i1
          simp only at he
          subst he
          simp
          obtain ⟨c1, hc1⟩ : ∃ c, (In.mk li 0).count 4 = c := ⟨_, rfl⟩
          obtain ⟨c2, hc2⟩ : ∃ c, c1.1.count 1099511627776 = c := ⟨_, rfl⟩
          obtain ⟨c3, hc3⟩ : ∃ c, c2.1.int = c := ⟨_, rfl⟩
          obtain ⟨c4, hc4⟩ : ∃ c, c3.1.int = c := ⟨_, rfl⟩
          have hord : (In.mk li 0).ord = (c4.1.fail (Ord.mk c1.2 c2.2 c3.2 c4.2).chk, ⟨c1.2, c2.2, c3.2, c4.2⟩) := by
            simp only [In.ord, hc1, hc2, hc3, hc4]
          refine callT_eq [(1000, 1000)] (Count_T v ⟨li, 0⟩ 4 (by decide)) ?_
          simp [hc1]
          refine callT_eq [(1000, 1000)] (Count_T v c1.1 1099511627776 (by decide)) ?_
          simp [hc2]
          refine callT_eq [(1000, 1000)] (Int_T v c2.1) ?_
          simp [hc3]
          refine callT_eq [(1000, 1000)] (Int_T v c3.1) ?_
          simp [hc4]
          intro v5
          refine callT_eq [] (Check_T ⟨c1.2, c2.2, c3.2, c4.2⟩) ?_
          simp [Ord.cells, i64c]
          refine callT_eq [(1000, 1000)] (Fail_T v c4.1 (Ord.mk c1.2 c2.2 c3.2 c4.2).chk) ?_
          simp
          intro v32
          refine ⟨by omega, by omega, fun v33 => ?_⟩
          have e4 : IntKind.i64.wrap (n : Int) = n := i64_id (by omega) (by omega)
          have e5 : List.take (l.length * 4) (rowC l) = rowC l := List.take_of_length_le (by simp)
          refine SLx.again (n, c4.1.fail (Ord.mk c1.2 c2.2 c3.2 c4.2).chk, l ++ [⟨c1.2, c2.2, c3.2, c4.2⟩], v33) ⟨by simp; omega, ?_⟩ (by simp only; omega) (by simp [e4]) (by simp [e5, Ord.cells, i64c])
          rw [← hrec]
          simp [In.ords, hord]
        · have hb := out (by simp [In.ords, he])
          simp [he]
          refine callT_eq [(1000, 1000)] (Err_T v i1) ?_
          simp [hb, he]
          exact ⟨_, rfl⟩
  · rcases hh with ⟨h1, rfl, u, l, rfl⟩ | ⟨h1, u, rfl, rfl⟩
    · refine VLx.sub [(1000, v, inB i.batch.1)] (by simp) (VLx.nil ⟨?_, rfl⟩)
      have : i.batch.2 = [] := by simp only [In.batch] at h1 ⊢; rw [if_pos h1]
      simp [this]
    · refine VLx.frz 33 (B := ⟨4, rowC i.batch.2⟩) rfl (VLx.done ?_)
      simp
      exact List.take_of_length_le (by simp)

/-- Bytes as a batch, the error's number. -/
def parseB (l : List UInt8) : List Ord × Int :=
  let p := (In.mk l 0).batch
  if p.1.fin.e ≠ 0 then ([], p.1.fin.e) else (p.2, 0)

/-- The first part of a pair: the nil slice as one that never changes. -/
theorem VLx.nil1 {h : Heap} {S : TV → Heap → Prop} {l : List TV} (k : S (.tup (.isl [] 0 :: l)) h) : VLx (.tup (.v (.slice none 0 0) :: l)) h S := fun e E w v H hv => by
  refine ⟨_, h, E, k, Env.Le.refl E, H, ?_⟩
  simp only [RV, RVl] at hv ⊢
  obtain ⟨zs, h1, h2, ⟨x, h3, h4⟩, h5⟩ := hv
  exact ⟨zs, h1, h2, ⟨x, h3, .inl ⟨trivial, trivial, h4⟩⟩, h5⟩

/-- The error's number of a batch. -/
def chkAll : List Ord → Int
  | [] => 0
  | o :: l => if o.chk ≠ 0 then o.chk else chkAll l
def batchChk (l : List Ord) : Int := if 8 < l.length then 8 else chkAll l

end Go.Proofs.Ytkggjmoghpmelaa.TL
