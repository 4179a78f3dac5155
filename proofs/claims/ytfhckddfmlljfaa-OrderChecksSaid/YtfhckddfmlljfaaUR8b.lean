/- The reference's units: one goes, one changes. -/
import Derived.Test.YtfhckddfmlljfaaUR8
namespace Go.Proofs.Ytfhckddfmlljfaa.TL
open Go
set_option linter.unusedVariables false
set_option linter.unusedSimpArgs false

theorem pos_of {id : Int} : ∀ {l : List Un} (i : Nat) (hi : i < l.length), (l.Pairwise fun a b => a.id < b.id) → l[i].id = id → pos l id = i ∧ found l id = true := fun {l} i hi ha he => by
  have hp : pos l id = i := pos_eq (by omega) (fun k h hk => by
    have := List.pairwise_iff_getElem.1 ha k i h hi hk
    omega) (fun k h hk => by
    by_cases hki : k = i
    · subst hki; omega
    · have := List.pairwise_iff_getElem.1 ha i k hi h (by omega)
      omega)
  refine ⟨hp, ?_⟩
  unfold found
  rw [hp, List.getElem?_eq_getElem hi]
  simpa using he
theorem findR_eq {l : List Un} {id : Int} (ha : l.Pairwise fun a b => a.id < b.id) : findR l id = if found l id then (pos l id : Int) else -1 := by
  unfold findR
  cases h : l.findIdx? (fun u => decide (u.id = id)) with
  | some k =>
    rw [List.findIdx?_eq_some_iff_getElem] at h
    obtain ⟨hk, h1, _⟩ := h
    obtain ⟨e1, e2⟩ := pos_of k hk ha (by simpa using h1)
    rw [e2, e1]; rfl
  | none =>
    rw [List.findIdx?_eq_none_iff] at h
    have : found l id = false := by
      cases hf : found l id with
      | false => rfl
      | true =>
        have hp := found_lt hf
        unfold found at hf
        rw [List.getElem?_eq_getElem hp] at hf
        have := h _ (List.getElem_mem hp)
        simp at hf this
        exact absurd hf this
    rw [this]; rfl

theorem split_at {l : List Un} {i : Nat} (hi : i < l.length) : ∃ A x B, l = A ++ x :: B ∧ i = A.length := ⟨l.take i, l[i], l.drop (i + 1), by rw [← List.drop_eq_getElem_cons hi, List.take_append_drop], by simp; omega⟩

set_option maxHeartbeats 1000000 in
set_option maxRecDepth 100000 in
theorem KillR_T (t : Tab) (id : Int) (ht : t.WF) : callT Try.prog 54 [rTab t, i64v id] ⟨[], []⟩ (fun r h => r = .tup [rTab (t.kill id), .v (.bool (found t.l id))] ∧ h = []) := by
  have hl := ht.ok.len
  have hf := findR_eq (id := id) ht.asc
  by_cases hs : found t.l id = true
  · have hp := found_lt hs
    rw [if_pos hs] at hf
    refine callT.mono (K := fun r h => ∃ v, r = .tup [.agg [.sl 13 v 0 (t.l.length - 1), i64v t.next], .v (.bool true)] ∧ h = [(13, v, ⟨6, rowU (t.l.eraseIdx (pos t.l id))⟩)]) ?_ fun r h hh => ?_
    · refine callT_of_body [0, 1, 2, 4, 5, 6, 11] [13] Try.func54 rfl (by decide) (by kernel_rfl) rfl ?_
      simp [i64v]
      intro v1 v2
      refine callT_eq [] (FindR_T t id hl) ?_
      have hn : ¬ ((pos t.l id : Int) < 0) := by omega
      simp [i64v, hf, hn]
      refine draw_g [1, 2, 3, 4, 6, 7, 8, 9, 10, 12, 13, 0, 5, 11] 14 [(0, []), (5, [0, 1, 2, 3, 4]), (11, [0, 1, 2, 3, 4, 5, 6, 7, 8, 9, 10])] (by kernel_rfl) (by kernel_rfl) (by kernel_rfl) ?_
      rw [eraseIdx_td]
      have e1 : IntKind.i64.wrap ((pos t.l id : Int) + 1) = (pos t.l id : Int) + 1 := i64_id (by omega) (by omega)
      have e2 : ((t.l.length : Int) - ((pos t.l id : Int) + 1)).toNat = t.l.length - (pos t.l id + 1) := by omega
      have e3 : ((pos t.l id : Int) + 1).toNat = pos t.l id + 1 := by omega
      simp [e1, e2, e3, rowU_take, rowU_drop]
      refine ⟨by omega, by omega, by omega, by omega, by omega, by omega, by omega, by omega, by omega, by omega, fun v => ⟨v, ⟨rfl, by omega⟩, rfl, ?_⟩⟩
      rw [if_pos (by omega)]
      have t2 : List.take (t.l.length - (pos t.l id + 1)) (List.take (t.l.length - (pos t.l id + 1)) (List.drop (pos t.l id + 1) t.l)) = List.drop (pos t.l id + 1) t.l := by
        rw [List.take_of_length_le (l := List.drop (pos t.l id + 1) t.l) (by simp), List.take_of_length_le (by simp)]
      rw [t2]
      simp [List.take_take]
    · obtain ⟨v, rfl, rfl⟩ := hh
      refine VLx.frz 13 rfl (VLx.done ?_)
      have e1 := take6 (t.l.eraseIdx (pos t.l id))
      rw [List.length_eraseIdx_of_lt hp] at e1
      simp [Tab.kill, hs, i64v, e1, List.length_eraseIdx_of_lt hp]
  · rw [if_neg hs] at hf
    refine callT_of_body [0, 1, 2, 4, 5, 6, 11] [] Try.func54 rfl (by decide) (by kernel_rfl) rfl ?_
    simp [i64v]
    intro v1 v2
    refine callT_eq [] (FindR_T t id hl) ?_
    simp [i64v, hf, Tab.kill, hs]

theorem row_put6 {l : List Un} {p : Nat} (hp : p < l.length) (g : Un → Un) : List.take (p * 6) (rowU l) ++ ((g l[p]).cells ++ List.drop (p * 6 + 6) (rowU l)) = rowU (l.modify p g) := by
  obtain ⟨A, x, B, rfl, rfl⟩ := split_at hp
  have hx : (A ++ x :: B)[A.length] = x := by simp
  have e1 : (A ++ x :: B).modify A.length g = A ++ g x :: B := by simp [List.modify_eq_take_cons_drop]
  rw [e1, hx, show A.length * 6 + 6 = (A.length + 1) * 6 by omega, rowU_take, rowU_drop]
  simp
theorem frz_tab {v n : Nat} {l : List Un} {x : Int} {y : TV} (hn : n = l.length) (hy : frzT 43 v ⟨6, rowU l⟩ y = y) : frzT 43 v ⟨6, rowU l⟩ (.tup [.agg [.sl 43 v 0 n, i64v x], y]) = .tup [rTab ⟨l, x⟩, y] := by
  subst hn
  simp [take6, hy, i64v]

set_option maxHeartbeats 1000000 in
set_option maxRecDepth 100000 in
theorem SetR_T (t : Tab) (id f x : Int) (ht : t.WF) : callT Try.prog 55 [rTab t, i64v id, i64v f, i64v x] ⟨[], []⟩ (fun r h => r = .tup [rTab (t.set id f x).1, .v (.bool (t.set id f x).2)] ∧ h = []) := by
  have hl := ht.ok.len
  have hf := findR_eq (id := id) ht.asc
  by_cases hs : found t.l id = false
  · rw [if_neg (by simp [hs])] at hf
    refine callT_of_body [0, 1, 2, 3, 4, 8, 9, 10, 11, 12, 25, 32, 41] [] Try.func55 rfl (by decide) (by kernel_rfl) rfl ?_
    simp [i64v]
    intro v1 v2
    refine callT_eq [] (FindR_T t id hl) ?_
    simp [i64v, hf, Tab.set, hs]
  rw [Bool.not_eq_false] at hs
  have hp := found_lt hs
  rw [if_pos hs] at hf
  have hn : ¬ ((pos t.l id : Int) < 0) := by omega
  by_cases h1 : f < 2
  · refine callT_of_body [0, 1, 2, 3, 4, 8, 9, 10, 11, 12, 25, 32, 41] [] Try.func55 rfl (by decide) (by kernel_rfl) rfl ?_
    simp [i64v]
    intro v1 v2
    refine callT_eq [] (FindR_T t id hl) ?_
    simp [i64v, hf, Tab.set, hs, hn, h1]
  by_cases h2 : 4 < f
  · refine callT_of_body [0, 1, 2, 3, 4, 8, 9, 10, 11, 12, 25, 32, 41] [] Try.func55 rfl (by decide) (by kernel_rfl) rfl ?_
    simp [i64v]
    intro v1 v2
    refine callT_eq [] (FindR_T t id hl) ?_
    simp [i64v, hf, Tab.set, hs, hn, h1, h2]
  by_cases h3 : f = 4 ∧ x < 1
  · obtain ⟨rfl, h3⟩ := h3
    refine callT_of_body [0, 1, 2, 3, 4, 8, 9, 10, 11, 12, 25, 32, 41] [] Try.func55 rfl (by decide) (by kernel_rfl) rfl ?_
    simp [i64v]
    intro v1 v2
    refine callT_eq [] (FindR_T t id hl) ?_
    simp [i64v, hf, hn, h3]
    refine callT_eq [] (KillR_T t id ht) ?_
    simp [i64v, Tab.set, hs, h3]
  by_cases h4 : mayF f x = false
  · refine callT_of_body [0, 1, 2, 3, 4, 8, 9, 10, 11, 12, 25, 32, 41] [] Try.func55 rfl (by decide) (by kernel_rfl) rfl ?_
    simp [i64v]
    intro v1 v2
    refine callT_eq [] (FindR_T t id hl) ?_
    by_cases h5 : f = 4
    · subst h5
      have h6 : ¬ x < 1 := fun h => h3 ⟨rfl, h⟩
      simp [i64v, hf, hn, h6]
      refine callT_eq [] (MayR_T 4 x) ?_
      simp [i64v, mayR_eq, Tab.set, hs, h6, h4]
    · simp [i64v, hf, hn, h1, h2, h5]
      refine callT_eq [] (MayR_T f x) ?_
      have h7 : mayR f x = false := by rw [mayR_eq (by omega)]; exact h4
      simp [i64v, h7, Tab.set, hs, h1, h2, h5, h4]
  rw [Bool.not_eq_false] at h4
  have hset : t.set id f x = (⟨t.l.modify (pos t.l id) fun w => w.setF f x, t.next⟩, true) := by
    unfold Tab.set
    rw [if_neg (by simp [hs, h1, h2]), if_neg h3, if_neg (by simp [h4])]
  rw [hset]
  refine callT.mono (K := fun r h => ∃ v, r = .tup [.agg [.sl 43 v 0 t.l.length, i64v t.next], .v (.bool true)] ∧ h = [(43, v, ⟨6, rowU (t.l.modify (pos t.l id) fun w => w.setF f x)⟩)]) ?_ fun r h hh => ?_
  · have h7 : mayR f x = true := by rw [mayR_eq (by omega)]; exact h4
    refine callT_of_body [0, 1, 2, 3, 4, 8, 9, 10, 11, 12, 25, 32, 41] [43] Try.func55 rfl (by decide) (by kernel_rfl) rfl ?_
    simp [i64v]
    intro v1 v2
    refine callT_eq [] (FindR_T t id hl) ?_
    have hf3 : f = 2 ∨ f = 3 ∨ f = 4 := by omega
    rcases hf3 with rfl | rfl | rfl
    all_goals
      first | (have h6 : ¬ x < 1 := fun h => h3 ⟨rfl, h⟩) | skip
    · simp [i64v, hf, hn]
      refine callT_eq [] (MayR_T 2 x) ?_
      simp [i64v, h7, take6, hp, rowU_at hp]
      exact ⟨by omega, by omega, by omega, row_put6 hp fun w => w.setF 2 x⟩
    · simp [i64v, hf, hn]
      refine callT_eq [] (MayR_T 3 x) ?_
      simp [i64v, h7, take6, hp, rowU_at hp]
      exact ⟨by omega, by omega, by omega, row_put6 hp fun w => w.setF 3 x⟩
    · simp [i64v, hf, hn, h6]
      refine callT_eq [] (MayR_T 4 x) ?_
      simp [i64v, h7, take6, hp, rowU_at hp]
      exact ⟨by omega, by omega, by omega, row_put6 hp fun w => w.setF 4 x⟩
  · obtain ⟨v, rfl, rfl⟩ := hh
    refine VLx.frz 43 rfl (VLx.done ?_)
    rw [frz_tab (by simp) rfl]
    simp
end Go.Proofs.Ytfhckddfmlljfaa.TL
