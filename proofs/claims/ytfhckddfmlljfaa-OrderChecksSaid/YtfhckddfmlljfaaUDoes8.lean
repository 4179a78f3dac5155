/- The law's Does. -/
import Derived.Test.YtfhckddfmlljfaaUTextR8
import Derived.Test.YtfhckddfmlljfaaULaw8b
namespace Go.Proofs.Ytfhckddfmlljfaa.TL
open Go
set_option linter.unusedVariables false
set_option linter.unusedSimpArgs false

/-- Which number a call speaks of. -/
def Act.id (t : Tab) (o : Act) : Int := if 0 < t.l.length ∧ o.kind < 4 then ((t.l[((bits .and .i64 o.n 255).tmod t.l.length).toNat]?).map Un.id).getD 0 else o.y
def Tab.does (t : Tab) (o : Act) : Tab :=
  if o.kind = 1 then (t.spawn o.a o.b o.x o.y).1 else if o.kind = 2 then t.kill (o.id t) else if o.kind = 3 ∨ o.kind = 5 then (t.set (o.id t) o.field o.x).1 else if o.kind = 4 then t.kill o.x else t

theorem setF_id (w : Un) (f x : Int) : (w.setF f x).id = w.id := by unfold Un.setF; split; rfl; split <;> rfl
theorem setF_fok {w : Un} (h : w.fok) {f x : Int} (h2 : 2 ≤ f) (h4 : f ≤ 4) (hm : mayF f x = true) : (w.setF f x).fok := by
  have hf : f = 2 ∨ f = 3 ∨ f = 4 := by omega
  rcases hf with rfl | rfl | rfl
  · exact ⟨h.a, h.b, hm, h.d, h.e⟩
  · exact ⟨h.a, h.b, h.c, hm, h.e⟩
  · exact ⟨h.a, h.b, h.c, h.d, hm⟩
theorem mem_modify {l : List Un} {p : Nat} {g : Un → Un} {w : Un} (h : w ∈ l.modify p g) : w ∈ l ∨ ∃ y ∈ l, w = g y := by
  obtain ⟨i, hi, rfl⟩ := List.getElem_of_mem h
  rw [List.getElem_modify]
  split
  · exact .inr ⟨_, List.getElem_mem _, rfl⟩
  · exact .inl (List.getElem_mem _)
theorem Tab.WF.set {t : Tab} (h : t.WF) (id f x : Int) : (t.set id f x).1.WF := by
  unfold Tab.set
  split
  · exact h
  rename_i hc
  split
  · exact h.kill id
  split
  · exact h
  rename_i hm
  rw [Bool.not_eq_false] at hm
  have hf : 2 ≤ f ∧ f ≤ 4 := by omega
  refine ⟨?_, fun w hw => ?_, by simpa using h.len, h.nx, fun w hw => ?_⟩
  · have ha := h.asc
    rw [List.pairwise_iff_getElem] at ha ⊢
    intro i j hi hj hij
    have e : ∀ (k : Nat) (hk : k < (t.l.modify (pos t.l id) fun w => w.setF f x).length), ((t.l.modify (pos t.l id) fun w => w.setF f x)[k]).id = (t.l[k]'(by simpa using hk)).id := fun k hk => by
      rw [List.getElem_modify]
      split
      · exact setF_id _ _ _
      · rfl
    show ((t.l.modify (pos t.l id) fun w => w.setF f x)[i]).id < ((t.l.modify (pos t.l id) fun w => w.setF f x)[j]).id
    rw [e i hi, e j hj]
    exact ha i j _ _ hij
  · rcases mem_modify hw with hw | ⟨y, hy, rfl⟩
    · exact h.lt w hw
    · rw [setF_id]; exact h.lt y hy
  · rcases mem_modify hw with hw | ⟨y, hy, rfl⟩
    · exact h.fo w hw
    · exact setF_fok (h.fo y hy) hf.1 hf.2 hm
theorem Tab.WF.does {t : Tab} (h : t.WF) (o : Act) : (t.does o).WF := by
  unfold Tab.does
  split
  · exact h.spawn _ _ _ _
  split
  · exact h.kill _
  split
  · exact h.set _ _ _
  split
  · exact h.kill _
  · exact h

set_option maxHeartbeats 2000000 in
set_option maxRecDepth 100000 in
theorem Does_T (v u : Nat) (t : Tab) (o : Act) (ht : t.WF) : callT Try.prog 27 [.at 1000 v 0, rTab t, .agg o.cells] ⟨[], tabH v u t⟩ (fun r h => ∃ u', r = .tup [rTab (t.does o), .v (.bool true)] ∧ h = tabH v u' (t.does o)) := by
  refine callT_of_body [0, 1, 2, 4, 5, 6, 7, 8, 9, 10, 11, 12, 13, 14, 15, 16, 17, 18, 19, 20, 31, 45, 46, 75, 90, 114] [1000, 1001] Try.func27 rfl (by decide) (by kernel_rfl) rfl ?_
  have hlen := ht.len
  have hand := i64_and_le o.n 255 (by decide)
  have hcl : o.cells = [i64v o.kind, i64v o.n, i64v o.field, i64v o.a, i64v o.b, i64v o.x, i64v o.y] := rfl
  have hm : t.l ≠ [] → ∃ m : Nat, m < t.l.length ∧ (bits .and .i64 o.n 255).tmod t.l.length = m := fun h => by
    have h0 : 0 < t.l.length := List.length_pos_iff.2 h
    have h1 : 0 ≤ (bits .and .i64 o.n 255).tmod t.l.length := Int.tmod_nonneg _ hand.1
    have h2 : (bits .and .i64 o.n 255).tmod t.l.length < t.l.length := Int.tmod_lt_of_pos _ (by omega)
    exact ⟨((bits .and .i64 o.n 255).tmod t.l.length).toNat, by omega, by omega⟩
  by_cases h1 : o.kind = 1
  · by_cases hl : t.l = []
    · obtain ⟨tl, tn⟩ := t
      simp only at hl
      subst hl
      have hid : o.id ⟨[], tn⟩ = o.y := if_neg (by simp)
      simp [i64v, hcl, h1]
      intro v4 v5 v6
      refine callT_ex [(1000, 1000), (1001, 1001)] (Spawn_T v u ⟨[], tn⟩ o.a o.b o.x o.y ht.ok (Int.le_trans (by decide) ht.nx.1)) ?_
      simp [i64v]
      intro u1
      refine callT_eq [] (SpawnR_T ⟨[], tn⟩ o.a o.b o.x o.y ht.ok (Int.le_trans (by decide) ht.nx.1)) ?_
      simp [i64v, Tab.does, h1, hid]
    · obtain ⟨m, hm, hme⟩ := hm hl
      have hid : o.id t = t.l[m].id := by
        rw [Act.id, if_pos ⟨by omega, by omega⟩, hme]
        simp [hm]
      have hlp : 0 < t.l.length := by omega
      simp [i64v, hcl, h1, hlp]
      intro v4 v5 v6
      refine draw_quiet (by kernel_rfl) (by kernel_rfl) (by kernel_rfl) ?_
      simp [i64v, hme, hm, hl, rowU_at hm]
      refine callT_ex [(1000, 1000), (1001, 1001)] (Spawn_T v u t o.a o.b o.x o.y ht.ok (Int.le_trans (by decide) ht.nx.1)) ?_
      simp [i64v]
      intro u1
      refine callT_eq [] (SpawnR_T t o.a o.b o.x o.y ht.ok (Int.le_trans (by decide) ht.nx.1)) ?_
      simp [i64v, Tab.does, h1, hid]
  by_cases h2 : o.kind = 2
  · by_cases hl : t.l = []
    · obtain ⟨tl, tn⟩ := t
      simp only at hl
      subst hl
      have hid : o.id ⟨[], tn⟩ = o.y := if_neg (by simp)
      simp [i64v, hcl, h2]
      intro v4 v5 v6
      refine callT_ex [(1000, 1000), (1001, 1001)] (Kill_T v u ⟨[], tn⟩ o.y ht.ok) ?_
      simp [i64v]
      intro u1
      refine callT_eq [] (KillR_T ⟨[], tn⟩ o.y ht) ?_
      simp [i64v, Tab.does, h2, hid]
    · obtain ⟨m, hm, hme⟩ := hm hl
      have hid : o.id t = t.l[m].id := by
        rw [Act.id, if_pos ⟨by omega, by omega⟩, hme]
        simp [hm]
      have hlp : 0 < t.l.length := by omega
      simp [i64v, hcl, h2, hlp]
      intro v4 v5 v6
      refine draw_quiet (by kernel_rfl) (by kernel_rfl) (by kernel_rfl) ?_
      simp [i64v, hme, hm, hl, rowU_at hm]
      refine callT_ex [(1000, 1000), (1001, 1001)] (Kill_T v u t t.l[m].id ht.ok) ?_
      simp [i64v]
      intro u1
      refine callT_eq [] (KillR_T t t.l[m].id ht) ?_
      simp [i64v, Tab.does, h2, hid]
  by_cases h3 : o.kind = 3
  · by_cases hl : t.l = []
    · obtain ⟨tl, tn⟩ := t
      simp only at hl
      subst hl
      have hid : o.id ⟨[], tn⟩ = o.y := if_neg (by simp)
      simp [i64v, hcl, h3]
      intro v4 v5 v6
      refine callT_ex [(1000, 1000), (1001, 1001)] (Set_T v u ⟨[], tn⟩ o.y o.field o.x ht.ok) ?_
      simp [i64v]
      intro u1
      refine callT_eq [] (SetR_T ⟨[], tn⟩ o.y o.field o.x ht) ?_
      simp [i64v, Tab.does, h3, hid]
    · obtain ⟨m, hm, hme⟩ := hm hl
      have hid : o.id t = t.l[m].id := by
        rw [Act.id, if_pos ⟨by omega, by omega⟩, hme]
        simp [hm]
      have hlp : 0 < t.l.length := by omega
      simp [i64v, hcl, h3, hlp]
      intro v4 v5 v6
      refine draw_quiet (by kernel_rfl) (by kernel_rfl) (by kernel_rfl) ?_
      simp [i64v, hme, hm, hl, rowU_at hm]
      refine callT_ex [(1000, 1000), (1001, 1001)] (Set_T v u t t.l[m].id o.field o.x ht.ok) ?_
      simp [i64v]
      intro u1
      refine callT_eq [] (SetR_T t t.l[m].id o.field o.x ht) ?_
      simp [i64v, Tab.does, h3, hid]
  by_cases h5 : o.kind = 5
  · simp [i64v, hcl, h5]
    intro v4 v5 v6
    have hid : o.id t = o.y := if_neg (by omega)
    refine callT_ex [(1000, 1000), (1001, 1001)] (Set_T v u t o.y o.field o.x ht.ok) ?_
    simp [i64v]
    intro u1
    refine callT_eq [] (SetR_T t o.y o.field o.x ht) ?_
    simp [i64v, Tab.does, h5, hid]
  by_cases h4 : o.kind = 4
  · simp [i64v, hcl, h4]
    intro v4 v5 v6
    refine callT_ex [(1000, 1000), (1001, 1001)] (Kill_T v u t o.x ht.ok) ?_
    simp [i64v]
    intro u1
    refine callT_eq [] (KillR_T t o.x ht) ?_
    simp [i64v, Tab.does, h4]
  by_cases hk4 : o.kind < 4
  · by_cases hl : t.l = []
    · obtain ⟨tl, tn⟩ := t
      simp only at hl
      subst hl
      have hid : o.id ⟨[], tn⟩ = o.y := if_neg (by simp)
      simp [i64v, hcl, hk4, h1, h2, h3, h4, h5]
      simp [i64v, Tab.does, hk4, h1, h2, h3, h4, h5, hid]
    · obtain ⟨m, hm, hme⟩ := hm hl
      have hid : o.id t = t.l[m].id := by
        rw [Act.id, if_pos ⟨by omega, by omega⟩, hme]
        simp [hm]
      have hlp : 0 < t.l.length := by omega
      simp [i64v, hcl, hk4, h1, h2, h3, h4, h5, hlp]
      intro v4 v5 v6
      refine draw_quiet (by kernel_rfl) (by kernel_rfl) (by kernel_rfl) ?_
      simp [i64v, hme, hm, hl, rowU_at hm, hk4, h1, h2, h3, h4, h5]
      simp [i64v, Tab.does, hk4, h1, h2, h3, h4, h5, hid]
  · simp [i64v, hcl, hk4, h1, h2, h3, h4, h5, Tab.does]
end Go.Proofs.Ytfhckddfmlljfaa.TL
