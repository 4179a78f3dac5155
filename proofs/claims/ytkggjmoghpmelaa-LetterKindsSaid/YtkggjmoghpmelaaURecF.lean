/- The law's Fit: a record that may be. -/
import Derived.Test.YtkggjmoghpmelaaURecC
import Derived.Test.YtkggjmoghpmelaaURosX
import Derived.Test.YtkggjmoghpmelaaUTidy
namespace Go.Proofs.Ytkggjmoghpmelaa.TL
open Go
set_option linter.unusedVariables false
set_option linter.unusedSimpArgs false

@[simp] theorem nzL_append (a b : List TV) : nzL (a ++ b) = nzL a ++ nzL b := by
  induction a with
  | nil => rfl
  | cons x l ih => simp [ih]
@[simp] theorem nzL_rowC (l : List Ord) : nzL (rowC l) = rowC l := by
  induction l with
  | nil => rfl
  | cons o l ih => simp [Ord.cells, i64c, ih]
@[simp] theorem nzL_rowG (l : List Chg) : nzL (rowG l) = rowG l := by
  induction l with
  | nil => rfl
  | cons o l ih => simp [Chg.cells, i64c, ih]
@[simp] theorem nzL_rowP (l : List Ply) : nzL (rowP l) = rowP l := by
  induction l with
  | nil => rfl
  | cons o l ih => simp [Ply.cells, i64c, ih]
def rowB (l : List (List Ord)) : List TV := l.map fun b => .isl (rowC b) b.length
@[simp] theorem rowB_length (l : List (List Ord)) : (rowB l).length = l.length := by simp [rowB]
theorem rowB_at {l : List (List Ord)} {k : Nat} (h : k < l.length) : List.drop k (rowB l) = .isl (rowC l[k]) l[k].length :: List.drop (k + 1) (rowB l) := by
  rw [List.drop_eq_getElem_cons (by simpa using h)]; simp [rowB]

def fitS (a : List Chg × Ros) (c : Chg) : List Chg × Ros := if a.1.length < 8 ∧ a.2.chk c = 0 then (a.1 ++ [c], a.2.app c) else a
def fitL (was : Ros) (l : List Chg) : List Chg × Ros := l.foldl fitS ([], was)
theorem fitL_snoc (was : Ros) {l : List Chg} {k : Nat} (h : k < l.length) : fitL was (l.take (k + 1)) = fitS (fitL was (l.take k)) l[k] := by
  unfold fitL
  rw [List.take_succ_eq_append_getElem h, List.foldl_append]
  rfl
def fitP1 (all : List Int) (L : List (List Ord)) (i : Nat) : Ply := ⟨all.getD i 0, tidy (L.getD i [])⟩
def fitP (all : List Int) (L : List (List Ord)) (k : Nat) : List Ply := (List.range k).map (fitP1 all L)
@[simp] theorem fitP_length (all : List Int) (L : List (List Ord)) (k : Nat) : (fitP all L k).length = k := by simp [fitP]
theorem fitP_succ (all : List Int) (L : List (List Ord)) (k : Nat) : fitP all L (k + 1) = fitP all L k ++ [fitP1 all L k] := by simp [fitP, List.range_succ]
def fit (t : Int) (was : Ros) (cs : List Chg) (L : List (List Ord)) : Rec :=
  ⟨t, (fitL was (few cs)).1, 0, 0, fitP ((fitL was (few cs)).2.all 32) L ((fitL was (few cs)).2.all 32).length⟩
theorem fgo1 {R : Ros} {c : Chg} (h : R.chk c = 0) : R.goW R [c] = (R.app c, 0) := by
  rw [Ros.goW, if_neg (by simp [h])]; rfl
theorem few_vl {l : List Chg} : ∀ c ∈ few l, c.v.length ≤ 34 := fun c hc => by
  obtain ⟨d, _, rfl⟩ := List.mem_map.1 hc
  simp [few1]
  omega

set_option maxHeartbeats 8000000 in
set_option maxRecDepth 100000 in
theorem Fit_T (t : Int) (was : Ros) (cs : List Chg) (L : List (List Ord)) (hs : was.s < 2 ^ 32) (he : 0 ≤ was.e) (he2 : was.e ≤ 1000000) (hcl : cs.length ≤ maxLen) :
    callT Try.prog 34 [i64c t, .agg was.cells, .isl (rowG cs) cs.length, .isl (rowB L) L.length] ⟨[], []⟩ (fun x h => x = .agg (fit t was cs L).cells ∧ h = []) := by
  refine callT.mono (K := fun x h => ∃ u u2, x = .agg [i64c t, .sl 1001 u 0 (fit t was cs L).c.length, i64c 0, i64c 0, .sl 1002 u2 0 (fit t was cs L).l.length] ∧ h = [(1001, u, ⟨3, rowG (fit t was cs L).c⟩), (1002, u2, ⟨2, rowP (fit t was cs L).l⟩)]) ?_ fun x h hh => ?_
  · refine callT_of_body [0, 1, 2, 3, 5, 8, 9, 10, 12, 13, 14, 15, 20, 21, 22, 23, 35, 51, 52, 53, 54, 63] [1001, 1002] Try.func34 rfl (by decide) (by kernel_rfl) rfl ?_
    have hfl := few_length cs
    have hfv := few_vl (l := cs)
    have hfew := Few_T cs hcl
    have hfit : fit t was cs L = ⟨t, (fitL was (few cs)).1, 0, 0, fitP ((fitL was (few cs)).2.all 32) L ((fitL was (few cs)).2.all 32).length⟩ := rfl
    generalize few cs = F at hfl hfv hfew hfit
    rw [hfit]
    simp [Ros.cells, u32v, i64c]
    intro v5 v8 v9 v10
    refine callT_eq [] hfew ?_
    simp [Ros.cells, u32v, i64c]
    refine ⟨Nat × List Chg × Ros × Nat, fun x => x.1 ≤ F.length ∧ fitL was (F.take x.1) = (x.2.1, x.2.2.1) ∧ x.2.2.1.s < 2 ^ 32 ∧ x.2.1.length ≤ 8 ∧ 0 ≤ x.2.2.1.e ∧ x.2.2.1.e ≤ was.e + x.1, fun x => ⟨[(3, .isl (rowB L) L.length), (8, .at 8 v8 0), (9, .at 9 v9 0), (10, .at 10 v10 0), (20, .isl (rowG F) F.length), (21, .v (.int .i64 F.length)), (22, .v (.int .i64 x.1))], [(8, v8, ⟨0, [i64c 0, .v (.slice none 0 0), i64c 0, i64c 0, .v (.slice none 0 0)]⟩), (9, v9, ⟨0, [i64c t, .sl 1001 x.2.2.2 0 x.2.1.length, i64c 0, i64c 0, .v (.slice none 0 0)]⟩), (10, v10, ⟨0, [u32v x.2.2.1.s, i64c x.2.2.1.e]⟩), (1001, x.2.2.2, ⟨3, rowG x.2.1⟩)]⟩, fun x => F.length - x.1, ?_, ?_⟩
    · refine SLx.nilCell 9 1 1001 3 (by decide) (by decide) rfl rfl fun u => SLx.fin _ ⟨(0, [], was, u), ⟨by simp, rfl, hs, by simp, he, by simp⟩, rfl⟩ ?_ ?_
      · simp
      · simp [i64c, u32v, setH]
    rintro ⟨k, C, R, u⟩ ⟨hk, hCR, hR, hC8, he0, hek⟩
    simp only at hk hCR hR hC8 he0 hek ⊢
    by_cases g : k < F.length
    · have hat := rowG_at g
      have hvk := hfv F[k] (List.getElem_mem g)
      have hsn := fitL_snoc was g
      rw [hCR] at hsn
      generalize F[k] = c at hat hvk hsn
      have e1 : IntKind.i64.wrap ((k : Int) + 1) = ((k + 1 : Nat) : Int) := by rw [i64_id (by omega) (by omega)]; rfl
      have hw := RWith_T R [c] hR (by simp) (by simp; omega) he0 (by omega)
      by_cases h8 : C.length < 8
      · have h8' : (C.length : Int) < 8 := by omega
        simp [g, hat, i64c, u32v, h8, h8']
        intro v12
        refine callT_eq [] (RChk_T R c hR (by omega)) ?_
        by_cases hc : R.chk c = 0
        · rw [fgo1 hc] at hw
          have hst : fitS (C, R) c = (C ++ [c], R.app c) := by simp [fitS, h8, hc]
          rw [hst] at hsn
          simp [Ros.cells, Chg.cells, u32v, i64c, hc]
          refine fun v39 => ⟨by omega, by omega, fun u2 v45 => ?_⟩
          refine callT.pre (fn_of hw) (CLx.frz 45 rfl (CLx.done ?_))
          simp
          refine callT_eq [] hw ?_
          simp [Ros.cells, Chg.cells, u32v, i64c]
          exact SLx.again (k + 1, C ++ [c], R.app c, u2) ⟨by simp only; omega, hsn, app_lt hR hc, by simp; omega, by simp only [Ros.app]; omega, by simp only [Ros.app]; omega⟩ (by simp only; omega) (by simp [e1]) (by simp [rowG_snoc, rowG_tk, Chg.cells, u32v, i64c])
        · have hst : fitS (C, R) c = (C, R) := by simp [fitS, hc]
          rw [hst] at hsn
          simp [Ros.cells, Chg.cells, u32v, i64c, hc]
          exact SLx.again (k + 1, C, R, u) ⟨by simp only; omega, hsn, hR, hC8, he0, by simp only; omega⟩ (by simp only; omega) (by simp [e1]) (by simp [u32v, i64c])
      · have h8' : ¬ (C.length : Int) < 8 := by omega
        have hst : fitS (C, R) c = (C, R) := by simp [fitS, h8]
        rw [hst] at hsn
        simp [g, hat, i64c, u32v, h8, h8']
        intro v12
        exact SLx.again (k + 1, C, R, u) ⟨by simp only; omega, hsn, hR, hC8, he0, by simp only; omega⟩ (by simp only; omega) (by simp [e1]) (by simp [u32v, i64c])
    · have : k = F.length := by omega
      subst this
      rw [List.take_length] at hCR
      rw [hCR]
      simp only
      have hal := R.all_len 32
      simp [i64c, u32v]
      refine callT_eq [] (RAll_T R hR) ?_
      generalize R.all 32 = A at hal
      simp [Ros.cells, i64c, u32v]
      refine ⟨Nat × Nat, fun x => x.1 ≤ A.length, fun x => ⟨[(3, .isl (rowB L) L.length), (8, .at 8 v8 0), (9, .at 9 v9 0), (51, .isl (A.map i64c) A.length), (52, .v (.int .i64 A.length)), (53, .v (.int .i64 x.1))], [(8, v8, ⟨0, [i64c 0, .isl [] 0, i64c 0, i64c 0, .isl [] 0]⟩), (9, v9, ⟨0, [i64c t, .sl 1001 u 0 C.length, i64c 0, i64c 0, .sl 1002 x.2 0 x.1]⟩), (1001, u, ⟨3, rowG C⟩), (1002, x.2, ⟨2, rowP (fitP A L x.1)⟩)]⟩, fun x => A.length - x.1, ?_, ?_⟩
      · refine SLx.nilCell 9 4 1002 2 (by decide) (by decide) rfl rfl fun u2 => SLx.nz (SLx.fin _ ⟨(0, u2), by simp, rfl⟩ ?_ ?_)
        · simp
        · simp [i64c, setH, fitP]
      rintro ⟨j, u2⟩ hj
      simp only at hj ⊢
      by_cases g2 : j < A.length
      · have hat := isl_at g2
        have e1 : IntKind.i64.wrap ((j : Int) + 1) = ((j + 1 : Nat) : Int) := by rw [i64_id (by omega) (by omega)]; rfl
        have hPs := fitP_succ A L j
        have hPl := fitP_length A L j
        have hPg : A.getD j 0 = A[j] := by simp [g2]
        have hP1 : fitP1 A L j = ⟨A[j], tidy (L.getD j [])⟩ := by rw [fitP1, hPg]
        rw [hP1] at hPs
        generalize fitP A L j = P at hPs hPl ⊢
        have htk : List.take (j * 2) (rowP P) = rowP P := List.take_of_length_le (by simp; omega)
        have hdr : List.drop (j * 2 + 2) (rowP P) = [] := List.drop_of_length_le (by simp; omega)
        by_cases g3 : j < L.length
        · have hat2 := rowB_at g3
          have hLg : L.getD j [] = L[j] := by simp [g3]
          rw [hLg] at hPs
          simp [g2, g3, hat, hat2, i64c]
          intro v15
          refine callT_eq [] (Tidy_T L[j]) ?_
          simp [i64c]
          refine fun v73 => ⟨by omega, by omega, by omega, fun u3 => ?_⟩
          exact SLx.again (j + 1, u3) (by simp only; omega) (by simp only; omega) (by simp [e1]) (by simp [hPs, rowP_snoc, htk, hdr, Ply.cells, i64c])
        · have hLg : L.getD j [] = [] := by rw [List.getD_eq_getElem?_getD, List.getElem?_eq_none (by omega)]; rfl
          rw [hLg] at hPs
          simp [g2, g3, hat, i64c]
          refine fun v15 v73 => ⟨by omega, by omega, by omega, fun u3 => ?_⟩
          refine SLx.nz (SLx.again (j + 1, u3) (by simp only; omega) (by simp only; omega) (by simp [e1]) ?_)
          simp [hPs, rowP_snoc, htk, hdr, Ply.cells, i64c]
          exact ⟨rfl, rfl⟩
      · have : j = A.length := by omega
        subst this
        simp [i64c]
  · obtain ⟨u, u2, rfl, rfl⟩ := hh
    have ht : (fit t was cs L).t = t := rfl
    have hpt : (fit t was cs L).pt = 0 := rfl
    have hpd : (fit t was cs L).pd = 0 := rfl
    generalize fit t was cs L = r at ht hpt hpd ⊢
    subst ht
    refine VLx.frz 1001 rfl (VLx.frz 1002 rfl (VLx.done ?_))
    simp [Rec.cells, i64c, rowP_tk, rowG_tk, hpt, hpd]
end Go.Proofs.Ytkggjmoghpmelaa.TL
