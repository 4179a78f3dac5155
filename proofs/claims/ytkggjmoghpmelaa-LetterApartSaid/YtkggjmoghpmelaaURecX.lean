/- The reference's batches and records: their bytes. How many orders a record holds. -/
import Derived.Test.YtkggjmoghpmelaaURecN
import Derived.Test.YtkggjmoghpmelaaURecO
import Derived.Test.YtkggjmoghpmelaaUAwk20
namespace Go.Proofs.Ytkggjmoghpmelaa.TL
open Go
set_option linter.unusedVariables false
set_option linter.unusedSimpArgs false

set_option maxHeartbeats 2000000 in
set_option maxRecDepth 100000 in
theorem BTextR_T (l : List Ord) (hok : ∀ o ∈ l, o.ok) (hl : l.length ≤ 1000) : callT Try.prog 31 [.isl (rowC l) l.length] ⟨[], []⟩ (fun x h => x = .v (.string (bs (batchB l))) ∧ h = []) := by
  have l1 := nb_len10 (n := l.length) (by omega)
  refine callT_of_body [0, 2, 3, 5, 9, 10, 11, 12] [] Try.func31 rfl (by decide) (by kernel_rfl) rfl ?_
  simp [i64c]
  refine callT_eq [] (CountR_T l.length (by omega)) ?_
  simp [i64c]
  refine loopT_of (Nat × Nat) (fun x => x.1 ≤ l.length) (fun x => ⟨[(3, .v (.string (bs (nb l.length ++ obs (l.take x.1))))), (9, .isl (rowC l) l.length), (10, .v (.int .i64 l.length)), (11, .v (.int .i64 x.1))], []⟩) (fun x => l.length - x.1) (0, 0) (by simp) (by simp [obs]) (by simp) ?_
  rintro ⟨k, z⟩ hk
  simp only at hk ⊢
  by_cases g : k < l.length
  · have hat := rowC_at g
    have hsn : obs (l.take (k + 1)) = obs (l.take k) ++ l[k].ob := by rw [List.take_succ_eq_append_getElem g, obs_snoc]
    obtain ⟨q1, q2, q3, q4⟩ := hok l[k] (List.getElem_mem g)
    unfold i64ok at q1 q2 q3 q4
    have e1 : IntKind.i64.wrap ((k : Int) + 1) = ((k + 1 : Nat) : Int) := by rw [i64_id (by omega) (by omega)]; rfl
    have hu : IntKind.u64.wrap l[k].u = ((IntKind.u64.wrap l[k].u).toNat : Int) := by rw [IntKind.wrap_u64]; omega
    have n1 := nb_len10 (n := l[k].k.toNat) (by omega)
    have n2 := nb_len10 (n := (IntKind.u64.wrap l[k].u).toNat) (by rw [IntKind.wrap_u64]; omega)
    have n3 := nb_len10 (zig_lt q3.1 q3.2)
    have n4 := nb_len10 (zig_lt q4.1 q4.2)
    have hNum := NumR_T (IntKind.u64.wrap l[k].u).toNat (by rw [IntKind.wrap_u64]; omega)
    rw [← hu] at hNum
    have ho : (obs (l.take k)).length ≤ 40 * 1000 := by
      have := obs_len (l := l.take k) fun o h => hok o (List.mem_of_mem_take h)
      simp at this
      omega
    have hob : l[k].ob = nb l[k].k.toNat ++ (nb (IntKind.u64.wrap l[k].u).toNat ++ (nb (zig l[k].a) ++ nb (zig l[k].b))) := rfl
    generalize hW : nb l.length ++ obs (l.take k) = W
    have hWl : W.length ≤ 50000 := by rw [← hW]; simp; omega
    have hW2 : nb l.length ++ obs (l.take (k + 1)) = W ++ l[k].ob := by rw [hsn, ← hW]; simp
    simp [g, hat, i64c]
    intro v5
    refine draw_g [0, 1, 2, 4, 5, 6, 9, 10, 13, 14, 3, 7, 8, 11, 12, 15, 16] 17 [(3, [1, 2]), (7, [1, 2, 3, 4, 5, 6]), (11, [1, 2, 3, 4, 5, 6, 7, 9, 10]), (15, [1, 2, 3, 4, 5, 6, 7, 9, 10, 11, 13, 14])] (by kernel_rfl) (by kernel_rfl) (by kernel_rfl) ?_
    simp [i64c]
    refine callT_eq [] (CountR_T l[k].k (by omega)) ?_
    simp [i64c]
    refine callT_eq [] hNum ?_
    simp [i64c]
    repeat refine ⟨by omega, ?_⟩
    refine callT_eq [] (IntR_T l[k].a (by omega) (by omega)) ?_
    simp [i64c]
    repeat refine ⟨by omega, ?_⟩
    refine callT_eq [] (IntR_T l[k].b (by omega) (by omega)) ?_
    simp [i64c]
    repeat refine ⟨by omega, ?_⟩
    exact SLx.again (k + 1, 0) (by simp only; omega) (by simp only; omega) (by simp [e1, hW2, hob]) (by simp)
  · have : k = l.length := by omega
    subst this
    simp [batchB]

set_option maxHeartbeats 4000000 in
set_option maxRecDepth 100000 in
theorem RcTextR_T (r : Rec) (hr : r.ok) : callT Try.prog 36 [.agg r.cells] ⟨[], []⟩ (fun x h => x = .v (.string (bs r.bytes)) ∧ h = []) := by
  obtain ⟨h1, h2, h3, h4, h5, h6, h7⟩ := hr
  have lcs := chgB_len h4
  have lps := plyB_len h6
  have k1 := nb_len10 (n := r.t.toNat) (by omega)
  have k2 := nb_len10 (n := r.c.length) (by omega)
  have k3 := nb_len10 (n := r.pt.toNat) (by omega)
  have k4 := nb_len10 (n := r.pd.toNat) (by omega)
  have k5 := nb_len10 (n := r.l.length) (by omega)
  have cut : ∀ k, (chgB (r.c.take k)).length ≤ 20000 * r.c.length := fun k => by
    have := chgB_len (l := r.c.take k) fun c hc => h4 c (List.mem_of_mem_take hc)
    simp at this
    omega
  have pcut : ∀ k, (plyB (r.l.take k)).length ≤ 50000 * r.l.length := fun k => by
    have := plyB_len (l := r.l.take k) fun c hc => h6 c (List.mem_of_mem_take hc)
    simp at this
    omega
  refine callT_of_body [0, 1, 2, 3, 5, 7, 17, 18, 19, 20, 45, 46, 47, 48] [] Try.func36 rfl (by decide) (by kernel_rfl) rfl ?_
  simp [Rec.cells, i64c]
  intro v1
  refine draw_g [0, 1, 3, 4, 5, 2] 6 [(2, [0, 1])] (by kernel_rfl) (by kernel_rfl) (by kernel_rfl) ?_
  simp [i64c]
  refine callT_eq [] (CountR_T r.t (by omega)) ?_
  simp [i64c]
  refine callT_eq [] (CountR_T r.c.length (by omega)) ?_
  simp [i64c]
  repeat refine ⟨by omega, ?_⟩
  generalize hA : nb r.t.toNat ++ nb r.c.length = A
  have hAl : A.length ≤ 20 := by rw [← hA]; simp; omega
  refine loopT_of (Nat × List UInt8) (fun x => x.1 ≤ r.c.length ∧ x.2 = A ++ chgB (r.c.take x.1)) (fun x => ⟨[(1, .at 1 v1 0), (3, .v (.string (bs x.2))), (17, .isl (rowG r.c) r.c.length), (18, .v (.int .i64 r.c.length)), (19, .v (.int .i64 x.1))], [(1, v1, ⟨0, r.cells⟩)]⟩) (fun x => r.c.length - x.1) (0, A) ⟨by simp, by simp [chgB]⟩ (by simp [← hA]) (by simp [Rec.cells, i64c]) ?_
  rintro ⟨k, W⟩ ⟨hk, hW⟩
  simp only at hk hW ⊢
  have ck := cut k
  by_cases g : k < r.c.length
  · have hat := rowG_at g
    have hsn : chgB (r.c.take (k + 1)) = chgB (r.c.take k) ++ r.c[k].bytes := by rw [List.take_succ_eq_append_getElem g, chgB_snoc]
    have e1 : IntKind.i64.wrap ((k : Int) + 1) = ((k + 1 : Nat) : Int) := by rw [i64_id (by omega) (by omega)]; rfl
    have hcs := h4 r.c[k] (List.getElem_mem g)
    have hcl := chg_len hcs
    have hcv := hcs.l
    have hWl : W.length ≤ 1000000000 := by rw [hW]; simp; omega
    simp [g, hat, i64c]
    intro v5
    refine callT_eq [] (CTextR_T r.c[k] hcs) ?_
    simp [Chg.cells, i64c]
    repeat refine ⟨by omega, ?_⟩

    exact SLx.again (k + 1, W ++ r.c[k].bytes) ⟨by simp only; omega, by simp only; rw [hsn, hW, List.append_assoc]⟩ (by simp only; omega) (by simp [e1]) (by simp [Rec.cells, i64c])
  · have : k = r.c.length := by omega
    subst this
    rw [List.take_length] at hW
    have hWl : W.length ≤ 1000000000 := by rw [hW]; simp; omega
    simp [Rec.cells, i64c]
    refine draw_g [0, 1, 2, 3, 5, 6, 7, 10, 11, 12, 4, 8, 9, 13, 14] 15 [(4, [1, 2, 3]), (8, [1, 2, 3, 4, 5, 6, 7]), (13, [1, 2, 3, 4, 5, 6, 7, 8, 10, 11, 12])] (by kernel_rfl) (by kernel_rfl) (by kernel_rfl) ?_
    simp [i64c]
    refine callT_eq [] (CountR_T r.pt (by omega)) ?_
    simp [i64c]
    refine callT_eq [] (CountR_T r.pd (by omega)) ?_
    simp [i64c]
    repeat refine ⟨by omega, ?_⟩
    refine callT_eq [] (CountR_T r.l.length (by omega)) ?_
    simp [i64c]
    repeat refine ⟨by omega, ?_⟩
    generalize hB : W ++ (nb r.pt.toNat ++ (nb r.pd.toNat ++ nb r.l.length)) = B
    have hBl : B.length ≤ 1000000100 := by rw [← hB]; simp; omega
    refine loopT_of (Nat × List UInt8) (fun x => x.1 ≤ r.l.length ∧ x.2 = B ++ plyB (r.l.take x.1)) (fun x => ⟨[(3, .v (.string (bs x.2))), (45, .isl (rowP r.l) r.l.length), (46, .v (.int .i64 r.l.length)), (47, .v (.int .i64 x.1))], []⟩) (fun x => r.l.length - x.1) (0, B) ⟨by simp, by simp [plyB]⟩ (by simp [← hB]) (by simp) ?_
    rintro ⟨j, X⟩ ⟨hj, hX⟩
    simp only at hj hX ⊢
    have cj := pcut j
    by_cases g2 : j < r.l.length
    · have hat := rowP_at g2
      have hsn : plyB (r.l.take (j + 1)) = plyB (r.l.take j) ++ r.l[j].bytes := by rw [List.take_succ_eq_append_getElem g2, plyB_snoc]
      have e1 : IntKind.i64.wrap ((j : Int) + 1) = ((j + 1 : Nat) : Int) := by rw [i64_id (by omega) (by omega)]; rfl
      obtain ⟨q1, q2, q3⟩ := h6 r.l[j] (List.getElem_mem g2)
      have hXl : X.length ≤ 2000000000 := by rw [hX]; simp; omega
      have q4 := nb_len10 (n := r.l[j].p.toNat) (by omega)
      have q5 := ply_len (h6 r.l[j] (List.getElem_mem g2))
      have q6 : (batchB r.l[j].b).length ≤ 41000 := by simp only [Ply.bytes, List.length_append] at q5; omega
      simp [g2, hat, i64c]
      intro v7
      refine draw_g [0, 1, 2, 4, 5, 3, 6, 7] 8 [(3, [1, 2]), (6, [1, 2, 3, 4, 5])] (by kernel_rfl) (by kernel_rfl) (by kernel_rfl) ?_
      simp [i64c]
      refine callT_eq [] (CountR_T r.l[j].p (by omega)) ?_
      simp [i64c]
      refine callT_eq [] (BTextR_T r.l[j].b q2 q3) ?_
      simp [i64c]
      repeat refine ⟨by omega, ?_⟩
      exact SLx.again (j + 1, X ++ r.l[j].bytes) ⟨by simp only; omega, by simp only; rw [hsn, hX, List.append_assoc]⟩ (by simp only; omega) (by simp [e1, Ply.bytes]) (by simp [Ply.bytes])
    · have : j = r.l.length := by omega
      subst this
      rw [List.take_length] at hX
      have hfin : X = r.bytes := by
        rw [hX, ← hB, hW, ← hA]
        simp [Rec.bytes]
      subst hfin
      simp [i64c]

/-- How many orders plays have. -/
def cnt (l : List Ply) : Int := (l.map fun q => (q.b.length : Int)).sum
theorem cnt_snoc (l : List Ply) (q : Ply) : cnt (l ++ [q]) = cnt l + q.b.length := by simp [cnt]
theorem cnt_le : ∀ {l : List Ply}, (∀ q ∈ l, q.b.length ≤ 8) → 0 ≤ cnt l ∧ cnt l ≤ 8 * l.length
  | [], _ => by simp [cnt]
  | q :: l, h => by
    have h1 := h q List.mem_cons_self
    have h2 := cnt_le (l := l) fun m hm => h m (List.mem_cons_of_mem _ hm)
    simp only [cnt, List.map_cons, List.sum_cons, List.length_cons] at h2 ⊢
    omega

end Go.Proofs.Ytkggjmoghpmelaa.TL
