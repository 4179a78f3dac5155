/- The reference's units: their bytes. -/
import Derived.Test.YtfhckddfmlljfaaUText8
import Derived.Test.YtfhckddfmlljfaaUR8b
namespace Go.Proofs.Ytfhckddfmlljfaa.TL
open Go
set_option linter.unusedVariables false
set_option linter.unusedSimpArgs false

def Un.at5 (w : Un) (j : Nat) : Int := w.flds.getD j 0
theorem flds_take (w : Un) (j : Nat) (hj : j < 5) : (w.flds.map zig).take (j + 1) = (w.flds.map zig).take j ++ [zig (w.at5 j)] := by
  rw [List.take_succ_eq_append_getElem (by simpa [Un.flds] using hj)]
  congr 2
  simp [Un.at5, List.getD, show j < w.flds.length by simpa [Un.flds] using hj]

set_option maxHeartbeats 1000000 in
set_option maxRecDepth 100000 in
theorem TextR8_T (t : Tab) (ht : t.WF) : callT Try.prog 57 [rTab t] ⟨[], []⟩ (fun r h => r = .v (.string (bs (tabB t))) ∧ h = []) := by
  have hnx := ht.nx
  have hlen := ht.len
  refine callT_of_body [0, 1, 2, 3, 4, 6, 8, 19, 20, 21, 22, 34, 35, 36] [] Try.func57 rfl (by decide) (by kernel_rfl) rfl ?_
  simp [i64v]
  intro v1
  refine draw_g [0, 1, 2, 4, 5, 6, 3] 7 [(3, [0, 1, 2])] (by kernel_rfl) (by kernel_rfl) (by kernel_rfl) ?_
  have e1 : IntKind.u64.wrap t.next = t.next := u64_id (by omega) (by omega)
  have hmx : max t.next 0 = t.next := by omega
  have h10 := nb_len10 (n := t.next.toNat) (by omega)
  have h10l := nb_len10 (n := t.l.length) (by omega)
  simp [e1]
  refine callT_eq [] (NumR_T t.next.toNat (by omega)) ?_
  simp [hmx]
  refine callT_eq [] (CountR_T t.l.length (by omega)) ?_
  simp
  refine ⟨by omega, ?_⟩
  refine loopT_of Nat (fun x => x ≤ t.l.length) (fun x => ⟨[(3, .v (.string (bs (nb t.next.toNat ++ (nb t.l.length ++ ubs 0 (t.l.take x)))))), (4, i64v (lastId 0 (t.l.take x))), (19, .isl (rowU t.l) t.l.length), (20, .v (.int .i64 t.l.length)), (21, .v (.int .i64 x))], []⟩) (fun x => t.l.length - x) 0 (by simp) (by simp [i64v, lastId, ubs]) (by simp) ?_
  intro k hk
  by_cases h1 : k < t.l.length
  · have hul := ubs_len ht k
    generalize hw1 : nb t.next.toNat ++ (nb t.l.length ++ ubs 0 (t.l.take k)) = w1
    have hw1l : w1.length ≤ 10000 := by rw [← hw1]; simp only [List.length_append]; omega
    have hid := ht.lt _ (List.getElem_mem h1)
    have hlast := last_lt ht k
    have hl3 := hlast.2.2 h1
    have e2 : IntKind.i64.wrap (t.l[k].id - lastId 0 (t.l.take k)) = t.l[k].id - lastId 0 (t.l.take k) := i64_id (by omega) (by omega)
    have e3 : IntKind.u64.wrap (t.l[k].id - lastId 0 (t.l.take k)) = t.l[k].id - lastId 0 (t.l.take k) := u64_id (by omega) (by omega)
    have e4 : max (t.l[k].id - lastId 0 (t.l.take k)) 0 = t.l[k].id - lastId 0 (t.l.take k) := by omega
    have hk10 := nb_len10 (n := (t.l[k].id - lastId 0 (t.l.take k)).toNat) (by omega)
    have hfr := fok_rng (ht.fo _ (List.getElem_mem h1))
    simp [h1, rowU_at h1, i64v]
    intro v6
    rw [e2, e3]
    refine callT_eq [] (NumR_T (t.l[k].id - lastId 0 (t.l.take k)).toNat (by omega)) ?_
    simp [e4]
    refine ⟨by omega, ?_⟩
    have hz5 : ∀ j, j ≤ 5 → (nbs ((t.l[k].flds.map zig).take j)).length ≤ 50 := fun j hj => by
      have := nbs_len (l := (t.l[k].flds.map zig).take j) fun n hn => by
        obtain ⟨x, hx, rfl⟩ := List.mem_map.1 (List.mem_of_mem_take hn)
        have := hfr x hx
        exact zig_lt (by omega) (by omega)
      rw [List.length_take] at this
      omega
    refine loopT_of Nat (fun j => j ≤ 5) (fun j => ⟨[(3, .v (.string (bs (w1 ++ (nb (t.l[k].id - lastId 0 (t.l.take k)).toNat ++ nbs ((t.l[k].flds.map zig).take j)))))), (6, .at 6 v6 0), (19, .isl (rowU t.l) t.l.length), (20, .v (.int .i64 t.l.length)), (21, .v (.int .i64 k)), (34, .agg [i64v t.l[k].a, i64v t.l[k].b, i64v t.l[k].c, i64v t.l[k].d, i64v t.l[k].e]), (35, .v (.int .i64 j))], [(6, v6, ⟨0, t.l[k].cells⟩)]⟩) (fun j => 5 - j) 0 (by simp) (by simp [i64v]) (by simp [Un.cells, i64v]) ?_
    intro j hj
    by_cases hj5 : j < 5
    · have hj5' : (j : Int) < 5 := by omega
      have hx : ∃ L, List.drop j [i64v t.l[k].a, i64v t.l[k].b, i64v t.l[k].c, i64v t.l[k].d, i64v t.l[k].e] = i64v (t.l[k].at5 j) :: L := by
        match j, hj5 with
        | 0, _ => exact ⟨_, rfl⟩
        | 1, _ => exact ⟨_, rfl⟩
        | 2, _ => exact ⟨_, rfl⟩
        | 3, _ => exact ⟨_, rfl⟩
        | 4, _ => exact ⟨_, rfl⟩
      obtain ⟨L, hL⟩ := hx
      have hmem : t.l[k].at5 j ∈ t.l[k].flds := by
        match j, hj5 with
        | 0, _ => simp [Un.at5, Un.flds]
        | 1, _ => simp [Un.at5, Un.flds]
        | 2, _ => simp [Un.at5, Un.flds]
        | 3, _ => simp [Un.at5, Un.flds]
        | 4, _ => simp [Un.at5, Un.flds]
      have hb := hfr _ hmem
      simp [hj5', hL, Un.cells]
      simp [i64v]
      refine callT_eq [] (IntR_T (t.l[k].at5 j) (by omega) (by omega)) ?_
      simp
      have hz := hz5 j hj
      have hz1 := nb_len10 (zig_lt (x := t.l[k].at5 j) (by omega) (by omega))
      refine ⟨by omega, ?_⟩
      have e5 : IntKind.i64.wrap ((j : Int) + 1) = ((j + 1 : Nat) : Int) := by rw [i64_id (by omega) (by omega)]; rfl
      refine SLx.again (j + 1) (by omega) (by omega) ?_ (by simp [Un.cells, i64v])
      rw [flds_take _ j hj5]
      simp [e5, i64v, nbs_snoc]
    · have hj : j = 5 := by omega
      subst hj
      simp [Un.cells, i64v]
      have e5 : IntKind.i64.wrap ((k : Int) + 1) = ((k + 1 : Nat) : Int) := by rw [i64_id (by omega) (by omega)]; rfl
      have e6 : nb t.next.toNat ++ (nb t.l.length ++ ubs 0 (t.l.take (k + 1))) = w1 ++ (nb (t.l[k].id - lastId 0 (t.l.take k)).toNat ++ nbs (t.l[k].flds.map zig)) := by
        rw [List.take_succ_eq_append_getElem h1, ubs_snoc, ← hw1]; simp
      refine SLx.again (k + 1) (by omega) (by omega) ?_ (by simp)
      rw [e6, List.take_succ_eq_append_getElem h1, lastId_snoc]
      simp [e5, i64v, Un.flds]
  · have : k = t.l.length := by omega
    subst this
    simp [i64v, tabB]
end Go.Proofs.Ytfhckddfmlljfaa.TL
