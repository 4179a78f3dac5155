/- Records: their bytes. -/
import Derived.Test.YtkggjmoghpmelaaURec
import Derived.Test.YtkggjmoghpmelaaURosU
namespace Go.Proofs.Ytkggjmoghpmelaa.TL
open Go
set_option linter.unusedVariables false
set_option linter.unusedSimpArgs false

def chgB (l : List Chg) : List UInt8 := (l.map Chg.bytes).flatten
def Ply.bytes (p : Ply) : List UInt8 := nb p.p.toNat ++ batchB p.b
def plyB (l : List Ply) : List UInt8 := (l.map Ply.bytes).flatten
def Rec.bytes (r : Rec) : List UInt8 := nb r.t.toNat ++ (nb r.c.length ++ (chgB r.c ++ (nb r.pt.toNat ++ (nb r.pd.toNat ++ (nb r.l.length ++ plyB r.l)))))
theorem chgB_snoc (l : List Chg) (c : Chg) : chgB (l ++ [c]) = chgB l ++ c.bytes := by simp [chgB]
theorem plyB_snoc (l : List Ply) (c : Ply) : plyB (l ++ [c]) = plyB l ++ c.bytes := by simp [plyB]
theorem chg_len {c : Chg} (h : c.small) : c.bytes.length ≤ 30 + 10 * c.v.length := by
  obtain ⟨h1, h2, h3, h4⟩ := h
  have e1 := nbs_len (l := [c.k, c.p, (c.v.length : Int)].map Int.toNat) (by simp; omega)
  have e2 := nbs_len (l := c.v.map Int.toNat) fun m hm => by
    obtain ⟨y, hy, rfl⟩ := List.mem_map.1 hm
    have := h3 y hy
    omega
  simp only [Chg.bytes, List.length_append]
  simp at e1 e2
  simp
  omega
theorem chgB_len : ∀ {l : List Chg}, (∀ c ∈ l, c.small) → (chgB l).length ≤ 20000 * l.length
  | [], _ => by simp [chgB]
  | c :: l, h => by
    have h1 := chg_len (h c List.mem_cons_self)
    have h3 := (h c List.mem_cons_self).l
    have h2 := chgB_len (l := l) fun m hm => h m (List.mem_cons_of_mem _ hm)
    simp only [chgB, List.map_cons, List.flatten_cons, List.length_append, List.length_cons] at h2 ⊢
    omega
structure Ply.ok (q : Ply) : Prop where
  p : q.p < 2 ^ 63
  b : ∀ o ∈ q.b, o.ok
  l : q.b.length ≤ 1000
theorem ply_len {p : Ply} (h : p.ok) : p.bytes.length ≤ 20 + 40 * p.b.length := by
  have e1 := nb_len10 (n := p.p.toNat) (by have := h.p; omega)
  have e2 := nb_len10 (n := p.b.length) (by have := h.l; omega)
  have e3 := obs_len h.b
  simp only [Ply.bytes, batchB, List.length_append]
  omega
theorem plyB_len : ∀ {l : List Ply}, (∀ c ∈ l, c.ok) → (plyB l).length ≤ 50000 * l.length
  | [], _ => by simp [plyB]
  | c :: l, h => by
    have h1 := ply_len (h c List.mem_cons_self)
    have h3 := (h c List.mem_cons_self).l
    have h2 := plyB_len (l := l) fun m hm => h m (List.mem_cons_of_mem _ hm)
    simp only [plyB, List.map_cons, List.flatten_cons, List.length_append, List.length_cons] at h2 ⊢
    omega
structure Rec.ok (r : Rec) : Prop where
  t : r.t < 2 ^ 63
  pt : r.pt < 2 ^ 63
  pd : r.pd < 2 ^ 63
  c : ∀ c ∈ r.c, c.small
  cl : r.c.length ≤ 40
  l : ∀ c ∈ r.l, c.ok
  ll : r.l.length ≤ 40

set_option maxHeartbeats 4000000 in
set_option maxRecDepth 100000 in
theorem RcPut_T (v u : Nat) (w : List UInt8) (r : Rec) (hr : r.ok) (hw : w.length ≤ 100000000) :
    callT Try.prog 26 [.agg r.cells, .at 1000 v 0] ⟨[], outH v u w⟩ (fun x h => ∃ u', x = .tup [] ∧ h = outH v u' (w ++ r.bytes)) := by
  obtain ⟨h1, h2, h3, h4, h5, h6, h7⟩ := hr
  refine callT_of_body [0, 1, 2, 5, 7, 17, 18, 19, 20, 40, 41, 42, 43] [1000, 1001] Try.func26 rfl (by decide) (by kernel_rfl) rfl ?_
  have lcs := chgB_len h4
  have lps := plyB_len h6
  have k1 := nb_len10 (n := r.t.toNat) (by omega)
  have k2 := nb_len10 (n := r.c.length) (by omega)
  have k3 := nb_len10 (n := r.pt.toNat) (by omega)
  have k4 := nb_len10 (n := r.pd.toNat) (by omega)
  have k5 := nb_len10 (n := r.l.length) (by omega)
  simp [Rec.cells, i64c]
  intro v2 v14
  have hc1 := OutCount_T v u w [r.t, (r.c.length : Int)] (by simp; omega) (by simp; omega)
  refine callT.pre (fn_of hc1) (CLx.frz 14 rfl (CLx.done ?_))
  simp
  refine callT_ex [(1000, 1000), (1001, 1001)] hc1 ?_
  simp [i64c]
  intro u1
  have cut : ∀ k, (chgB (r.c.take k)).length ≤ 20000 * r.c.length := fun k => by
    have := chgB_len (l := r.c.take k) fun c hc => h4 c (List.mem_of_mem_take hc)
    simp at this
    omega
  have pcut : ∀ k, (plyB (r.l.take k)).length ≤ 50000 * r.l.length := fun k => by
    have := plyB_len (l := r.l.take k) fun c hc => h6 c (List.mem_of_mem_take hc)
    simp at this
    omega
  have eW : nbs [r.t.toNat, r.c.length] = nb r.t.toNat ++ nb r.c.length := by simp [nbs]
  have eW2 : nbs [r.pt.toNat, r.pd.toNat, r.l.length] = nb r.pt.toNat ++ (nb r.pd.toNat ++ nb r.l.length) := by simp [nbs]
  generalize hA : w ++ (nb r.t.toNat ++ nb r.c.length) = A
  have hAl : A.length ≤ 100000100 := by rw [← hA]; simp; omega
  refine loopT_of (Nat × Nat × List UInt8) (fun x => x.1 ≤ r.c.length ∧ x.2.2 = A ++ chgB (r.c.take x.1)) (fun x => ⟨[(1, .at 1000 v 0), (2, .at 2 v2 0), (17, .isl (rowG r.c) r.c.length), (18, .v (.int .i64 r.c.length)), (19, .v (.int .i64 x.1))], outH v x.2.1 x.2.2 ++ [(2, v2, ⟨0, r.cells⟩)]⟩) (fun x => r.c.length - x.1) (0, u1, A) ⟨by simp, by simp [chgB]⟩ (by simp) (by simp [← hA, eW, Rec.cells, i64c]) ?_
  rintro ⟨k, u2, W⟩ ⟨hk, hW⟩
  simp only at hk hW ⊢
  have ck := cut k
  by_cases g : k < r.c.length
  · have hat := rowG_at g
    have hsn : chgB (r.c.take (k + 1)) = chgB (r.c.take k) ++ r.c[k].bytes := by rw [List.take_succ_eq_append_getElem g, chgB_snoc]
    have e1 : IntKind.i64.wrap ((k : Int) + 1) = ((k + 1 : Nat) : Int) := by rw [i64_id (by omega) (by omega)]; rfl
    have hcs := h4 r.c[k] (List.getElem_mem g)
    have hWl : W.length ≤ 1000000000 := by rw [hW]; simp; omega
    simp [g, hat, i64c]
    intro v5
    refine callT_ex [(1000, 1000), (1001, 1001)] (CPut_T v u2 W r.c[k] hcs (by omega)) ?_
    simp [Chg.cells, i64c]
    intro u3
    exact SLx.again (k + 1, u3, W ++ r.c[k].bytes) ⟨by simp only; omega, by simp only; rw [hsn, hW, List.append_assoc]⟩ (by simp only; omega) (by simp [e1]) (by simp [Rec.cells, i64c])
  · have : k = r.c.length := by omega
    subst this
    rw [List.take_length] at hW
    have hWl : W.length ≤ 1000000000 := by rw [hW]; simp; omega
    simp [Rec.cells, i64c]
    intro v37
    have hc2 := OutCount_T v u2 W [r.pt, r.pd, (r.l.length : Int)] (by simp; omega) (by simp; omega)
    refine callT.pre (fn_of hc2) (CLx.frz 37 rfl (CLx.done ?_))
    simp
    refine callT_ex [(1000, 1000), (1001, 1001)] hc2 ?_
    simp [i64c]
    intro u3
    generalize hB : W ++ (nb r.pt.toNat ++ (nb r.pd.toNat ++ nb r.l.length)) = B
    have hBl : B.length ≤ 1000000100 := by rw [← hB]; simp; omega
    refine loopT_of (Nat × Nat × List UInt8) (fun x => x.1 ≤ r.l.length ∧ x.2.2 = B ++ plyB (r.l.take x.1)) (fun x => ⟨[(1, .at 1000 v 0), (40, .isl (rowP r.l) r.l.length), (41, .v (.int .i64 r.l.length)), (42, .v (.int .i64 x.1))], outH v x.2.1 x.2.2⟩) (fun x => r.l.length - x.1) (0, u3, B) ⟨by simp, by simp [plyB]⟩ (by simp) (by simp [← hB, eW2, i64c]) ?_
    rintro ⟨j, u4, X⟩ ⟨hj, hX⟩
    simp only at hj hX ⊢
    have cj := pcut j
    by_cases g2 : j < r.l.length
    · have hat := rowP_at g2
      have hsn : plyB (r.l.take (j + 1)) = plyB (r.l.take j) ++ r.l[j].bytes := by rw [List.take_succ_eq_append_getElem g2, plyB_snoc]
      have e1 : IntKind.i64.wrap ((j : Int) + 1) = ((j + 1 : Nat) : Int) := by rw [i64_id (by omega) (by omega)]; rfl
      obtain ⟨q1, q2, q3⟩ := h6 r.l[j] (List.getElem_mem g2)
      have hXl : X.length ≤ 2000000000 := by rw [hX]; simp; omega
      have q4 := nb_len10 (n := r.l[j].p.toNat) (by omega)
      have hc3 := OutCount_T v u4 X [r.l[j].p] (by simp; omega) (by simp; omega)
      simp [g2, hat, i64c]
      intro v7 v49
      refine callT.pre (fn_of hc3) (CLx.frz 49 rfl (CLx.done ?_))
      simp
      refine callT_ex [(1000, 1000), (1001, 1001)] hc3 ?_
      simp [i64c]
      intro u5
      refine callT_ex [(1000, 1000), (1001, 1001)] (Put_T v u5 (X ++ nb r.l[j].p.toNat) r.l[j].b q2 (by simp; omega)) ?_
      simp [i64c]
      intro u6
      exact SLx.again (j + 1, u6, X ++ r.l[j].bytes) ⟨by simp only; omega, by simp only; rw [hsn, hX, List.append_assoc]⟩ (by simp only; omega) (by simp [e1]) (by simp [Ply.bytes])
    · have : j = r.l.length := by omega
      subst this
      rw [List.take_length] at hX
      have hfin : X = w ++ r.bytes := by
        rw [hX, ← hB, hW, ← hA]
        simp [Rec.bytes]
      subst hfin
      simp [i64c]
end Go.Proofs.Ytkggjmoghpmelaa.TL
