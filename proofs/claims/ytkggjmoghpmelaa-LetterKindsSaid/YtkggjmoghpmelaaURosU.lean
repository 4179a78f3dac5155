/- A change's bytes. -/
import Derived.Test.YtkggjmoghpmelaaURosT
import Derived.Test.YtkggjmoghpmelaaURos
namespace Go.Proofs.Ytkggjmoghpmelaa.TL
open Go
set_option linter.unusedVariables false
set_option linter.unusedSimpArgs false

def Chg.bytes (c : Chg) : List UInt8 := nbs ([c.k, c.p, (c.v.length : Int)].map Int.toNat) ++ nbs (c.v.map Int.toNat)
structure Chg.small (c : Chg) : Prop where
  k : c.k < 2 ^ 63
  p : c.p < 2 ^ 63
  v : ∀ n ∈ c.v, n < 2 ^ 63
  l : c.v.length ≤ 1000

set_option maxHeartbeats 1000000 in
set_option maxRecDepth 100000 in
theorem CPut_T (v u : Nat) (b : List UInt8) (c : Chg) (hc : c.small) (hb : b.length ≤ 10000000000) : callT Try.prog 51 [.agg c.cells, .at 1000 v 0] ⟨[], outH v u b⟩ (fun x h => ∃ u', x = .tup [] ∧ h = outH v u' (b ++ c.bytes)) := by
  obtain ⟨h1, h2, h3, h4⟩ := hc
  refine callT_of_body [0, 1, 2] [1000, 1001] Try.func51 rfl (by decide) (by kernel_rfl) rfl ?_
  simp [Chg.cells, i64c]
  intro v2
  have l1 := nb_len10 (n := c.k.toNat) (by omega)
  have l2 := nb_len10 (n := c.p.toNat) (by omega)
  have l3 := nb_len10 (n := c.v.length) (by omega)
  refine draw_g [0, 1, 2, 3, 4, 5, 6, 7, 8, 10, 11, 9] 12 [(9, [0, 1, 2, 3, 4, 5, 6, 7, 8])] (by kernel_rfl) (by kernel_rfl) (by kernel_rfl) ?_
  simp
  refine callT_ex [(1000, 1000), (1001, 1001)] (OutCount_T v u b [c.k, c.p, (c.v.length : Int)] (by simp; omega) (by simp; omega)) ?_
  simp [i64c]
  intro u2
  refine callT_ex [(1000, 1000), (1001, 1001)] (OutCount_T v u2 (b ++ nbs ([c.k, c.p, (c.v.length : Int)].map Int.toNat)) c.v h3 (by simp [nbs]; omega)) ?_
  simp [i64c, Chg.bytes]

theorem nbs_take (l : List Int) {k : Nat} (h : k < l.length) : nbs ((l.map Int.toNat).take (k + 1)) = nbs ((l.map Int.toNat).take k) ++ nb l[k].toNat := by
  rw [List.take_succ_eq_append_getElem (by simpa using h), nbs_snoc]; simp

set_option maxHeartbeats 1000000 in
set_option maxRecDepth 100000 in
theorem CTextR_T (c : Chg) (hc : c.small) : callT Try.prog 58 [.agg c.cells] ⟨[], []⟩ (fun x h => x = .v (.string (bs c.bytes)) ∧ h = []) := by
  obtain ⟨h1, h2, h3, h4⟩ := hc
  have l1 := nb_len10 (n := c.k.toNat) (by omega)
  have l2 := nb_len10 (n := c.p.toNat) (by omega)
  have l3 := nb_len10 (n := c.v.length) (by omega)
  refine callT_of_body [0, 1, 2, 3, 5, 19, 20, 21, 22] [] Try.func58 rfl (by decide) (by kernel_rfl) rfl ?_
  simp [Chg.cells, i64c]
  intro v1
  refine draw_g [0, 1, 3, 4, 7, 8, 9, 2, 5, 6, 10] 11 [(2, [0, 1]), (5, [0, 1, 2, 3, 4]), (10, [0, 1, 2, 3, 4, 5, 7, 8, 9])] (by kernel_rfl) (by kernel_rfl) (by kernel_rfl) ?_
  simp [i64c]
  refine callT_eq [] (CountR_T c.k (by omega)) ?_
  simp [i64c]
  refine callT_eq [] (CountR_T c.p (by omega)) ?_
  simp [i64c]
  refine ⟨by omega, ?_⟩
  refine callT_eq [] (CountR_T c.v.length (by omega)) ?_
  simp [i64c]
  have hH : nbs [c.k.toNat, c.p.toNat, c.v.length] = nb c.k.toNat ++ (nb c.p.toNat ++ nb c.v.length) := by simp [nbs]
  refine ⟨by omega, by omega, ?_⟩
  refine loopT_of (Nat × Nat) (fun x => x.1 ≤ c.v.length) (fun x => ⟨[(3, .v (.string (bs (nb c.k.toNat ++ (nb c.p.toNat ++ (nb c.v.length ++ nbs ((c.v.map Int.toNat).take x.1))))))), (19, .isl (c.v.map i64c) c.v.length), (20, .v (.int .i64 c.v.length)), (21, .v (.int .i64 x.1))], []⟩) (fun x => c.v.length - x.1) (0, 0) (by simp) (by simp [i64c]) (by simp) ?_
  rintro ⟨k, z⟩ hk
  simp only at hk ⊢
  by_cases g : k < c.v.length
  · have hat : List.drop k (c.v.map i64c) = i64c c.v[k] :: List.drop (k + 1) (c.v.map i64c) := by
      rw [List.drop_eq_getElem_cons (by simpa using g)]; simp
    have hn := nbs_take c.v g
    have hx := h3 c.v[k] (List.getElem_mem g)
    have e1 : IntKind.i64.wrap ((k : Int) + 1) = ((k + 1 : Nat) : Int) := by rw [i64_id (by omega) (by omega)]; rfl
    have lq := nbs_len (l := (c.v.map Int.toNat).take k) fun m hm => by
      obtain ⟨y, hy, rfl⟩ := List.mem_map.1 (List.mem_of_mem_take hm)
      have := h3 y hy
      omega
    have lx := nb_len10 (n := c.v[k].toNat) (by omega)
    simp at lq
    simp [g, hat, i64c]
    refine callT_eq [] (CountR_T c.v[k] (by omega)) ?_
    simp [i64c]
    refine ⟨by omega, ?_⟩
    exact SLx.again (k + 1, 0) (by simp only; omega) (by simp only; omega) (by simp [e1, hn, i64c]) (by simp)
  · have : k = c.v.length := by omega
    subst this
    simp [Chg.bytes, hH]
end Go.Proofs.Ytkggjmoghpmelaa.TL
