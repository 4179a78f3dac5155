/- The laws UnitNumbers and UnitSets, as the code runs. -/
import Derived.Test.YtfhckddfmlljfaaUSet
namespace Go.Proofs.Ytfhckddfmlljfaa.TL
open Go
set_option linter.unusedVariables false
set_option linter.unusedSimpArgs false

theorem callT_ex2 {P : Program} {f : Nat} {args0 args : List TV} {s : TS} {h0 : Heap} {H1 : Nat → Nat → Heap} {R : Nat → Nat → TV} {K : TV → Heap → Prop} (τ : List (Nat × Nat)) (hc : callT P f args0 ⟨[], h0⟩ (fun r h => ∃ u v, r = R u v ∧ h = H1 u v))
    (h : okTau τ = true ∧ args = renL (mapId τ) args0 ∧ okL (fun b => (mapId τ b).isSome = true) args0 ∧ (∀ p ∈ h0, okB (fun b => (mapId τ b).isSome = true) p.2.2 ∧ ∃ j, mapId τ p.1 = some j ∧ getH s.h j = some (p.2.1, renB (mapId τ) p.2.2)) ∧
      ∀ u v, okT (fun _ => True) (R u v) ∧ (∀ p ∈ H1 u v, (mapId τ p.1).isSome = true ∧ okB (fun _ => True) p.2.2) ∧ K (renT (mapId τ) (R u v)) (applyH (mapId τ) (H1 u v) τ s.h)) : callT P f args s K := by
  obtain ⟨h1, h2, h3, h4, h5⟩ := h
  exact callT_use τ hc h1 h2 h3 h4 fun r h ⟨u, v, e1, e2⟩ => by subst e1 e2; exact h5 u v

theorem ok0 : Tab.Ok ⟨[], 1⟩ := ⟨fun i j h hj => by simp at hj, by simp⟩
theorem ok1 (n : Int) (u : Un) : Tab.Ok ⟨[u], n⟩ := ⟨fun i j h hj => by simp at hj; omega, by simp⟩

set_option maxRecDepth 100000 in
theorem Awk8_T : callT Try.prog 12 [] ⟨[], []⟩ (fun r h => r = .v (.bool true) ∧ h = []) := by
  refine callT_of_body [0, 1, 2, 3, 11] [] Try.func12 rfl (by decide) (by kernel_rfl) rfl ?_
  simp
  refine callT_ex2 [(2, 4), (1001, 1001)] New1_T ?_
  simp [i64v]
  intro v u
  refine callT_ex [(1000, 4), (1001, 1001)] (Spawn_T v u ⟨[], 1⟩ 3 1 0 5 ok0 (by decide)) ?_
  simp [i64v, Tab.spawn, Tab.canSpawn, mayF, Un.cells]
  intro u1
  refine callT_eq [(1000, 4), (1001, 1001)] (Unit_T v u1 ⟨[⟨1, 3, 1, 0, 5, 1000⟩], 2⟩ 1 (ok1 _ _)) ?_
  have f1 : found [⟨1, 3, 1, 0, 5, 1000⟩] 1 = true := by decide
  have p1 : pos [⟨1, 3, 1, 0, 5, 1000⟩] 1 = 0 := by decide
  simp [i64v, Tab.unit, f1, p1, Un.cells]
  intro v2
  refine callT_ex [(1000, 4), (1001, 1001)] (Set_T v u1 ⟨[⟨1, 3, 1, 0, 5, 1000⟩], 2⟩ 1 4 0 (ok1 _ _)) ?_
  simp [i64v, Tab.set, Tab.kill, f1, p1, Un.cells]
  intro u3
  refine callT_eq [(1000, 4), (1001, 1001)] (Len_T v u3 ⟨[], 2⟩) ?_
  simp [i64v]
  refine callT_eq [(1000, 4), (1001, 1001)] (Next_T v u3 ⟨[], 2⟩) ?_
  simp [i64v]

theorem asc_iff {l : List Un} : Asc l ↔ l.Pairwise fun a b => a.id < b.id := by
  rw [List.pairwise_iff_getElem]
  exact ⟨fun h i j hi hj hij => h i j hij hj, fun h i j hij hj => h i j (by omega) hj hij⟩
structure Un.fok (w : Un) : Prop where
  a : mayF 0 w.a = true
  b : mayF 1 w.b = true
  c : mayF 2 w.c = true
  d : mayF 3 w.d = true
  e : mayF 4 w.e = true
structure Tab.WF (t : Tab) : Prop where
  asc : t.l.Pairwise fun a b => a.id < b.id
  lt : ∀ w ∈ t.l, 1 ≤ w.id ∧ w.id < t.next
  len : t.l.length ≤ 64
  nx : 1 ≤ t.next ∧ t.next ≤ 1099511627776
  fo : ∀ w ∈ t.l, w.fok
theorem Tab.WF.ok {t : Tab} (h : t.WF) : t.Ok := ⟨asc_iff.2 h.asc, Nat.le_trans h.len (by decide)⟩
theorem wf0 : Tab.WF ⟨[], 1⟩ := ⟨List.Pairwise.nil, fun w h => (by cases h), by decide, by decide, fun w h => (by cases h)⟩
theorem Tab.WF.kill {t : Tab} (h : t.WF) (id : Int) : (t.kill id).WF := by
  unfold Tab.kill
  split
  · have hs := List.eraseIdx_sublist t.l (pos t.l id)
    exact ⟨h.asc.sublist hs, fun w hw => h.lt w (hs.subset hw), Nat.le_trans hs.length_le h.len, h.nx, fun w hw => h.fo w (hs.subset hw)⟩
  · exact h
theorem Tab.kill_next (t : Tab) (id : Int) : (t.kill id).next = t.next := by unfold Tab.kill; split <;> rfl
theorem Tab.WF.spawn {t : Tab} (h : t.WF) (a b c d : Int) : (t.spawn a b c d).1.WF := by
  unfold Tab.spawn
  split
  · rename_i hc
    unfold Tab.canSpawn at hc
    simp only [Bool.and_eq_true, decide_eq_true_eq] at hc
    obtain ⟨h0, h1, h2, h3, h4, h5⟩ := hc
    refine ⟨?_, fun w hw => ?_, by simp; omega, ⟨by have := h.nx; simp only; omega, by simp only; omega⟩, fun w hw => ?_⟩
    · rw [List.pairwise_append]
      exact ⟨h.asc, by simp, fun x hx y hy => by simp at hy; subst hy; exact (h.lt x hx).2⟩
    · rcases List.mem_append.1 hw with hw | hw
      · have := h.lt w hw; simp only; omega
      · simp at hw; subst hw; have := h.nx; simp only; omega
    · rcases List.mem_append.1 hw with hw | hw
      · exact h.fo w hw
      · simp at hw; subst hw; exact ⟨h1, h2, h3, h4, (by show mayF 4 1000 = true; decide)⟩
  · exact h
theorem Tab.spawn_num (t : Tab) (a b c d : Int) (hn : 1 ≤ t.next) : ((t.spawn a b c d).2 = 0 ∧ (t.spawn a b c d).1 = t ∧ t.canSpawn a b c d = false) ∨ ((t.spawn a b c d).2 = t.next ∧ (t.spawn a b c d).1.next = t.next + 1 ∧ t.canSpawn a b c d = true) := by
  unfold Tab.spawn
  split
  · rename_i h; exact .inr ⟨rfl, rfl, h⟩
  · rename_i h; exact .inl ⟨rfl, rfl, by simpa using h⟩

structure Act where
  kind : Int
  n : Int
  field : Int
  a : Int
  b : Int
  x : Int
  y : Int
def Act.cells (o : Act) : List TV := [i64v o.kind, i64v o.n, i64v o.field, i64v o.a, i64v o.b, i64v o.x, i64v o.y]
def rowA (l : List Act) : List TV := (l.map Act.cells).flatten
@[simp] theorem rowA_nil : rowA [] = [] := rfl
@[simp] theorem rowA_cons (o : Act) (l : List Act) : rowA (o :: l) = o.cells ++ rowA l := rfl
@[simp] theorem rowA_length : ∀ l : List Act, (rowA l).length = l.length * 7
  | [] => rfl
  | o :: l => by simp [rowA_length l, Act.cells]; omega
theorem rowA_drop : ∀ (n : Nat) (l : List Act), (rowA l).drop (n * 7) = rowA (l.drop n)
  | 0, l => by simp
  | n + 1, [] => by simp
  | n + 1, o :: l => by
    have := rowA_drop n l
    rw [show (n + 1) * 7 = 7 + n * 7 by omega, ← List.drop_drop]
    simpa [Act.cells] using this
theorem rowA_at {l : List Act} {k : Nat} (h : k < l.length) : List.drop (k * 7) (rowA l) = i64v l[k].kind :: i64v l[k].n :: i64v l[k].field :: i64v l[k].a :: i64v l[k].b :: i64v l[k].x :: i64v l[k].y :: rowA (l.drop (k + 1)) := by
  rw [rowA_drop, List.drop_eq_getElem_cons h]; rfl
@[simp] theorem rowA_CloL (l : List Act) : CloL (rowA l) := by
  induction l with
  | nil => simp
  | cons o l ih => simp [Act.cells, i64v, ih]

set_option maxRecDepth 100000 in
theorem UnitNumbers_T (l : List Act) : callT Try.prog 3 [.isl (rowA l) l.length] ⟨[], []⟩ (fun r h => r = .v (.bool true)) := by
  refine callT_of_body [0, 2, 3, 4, 5, 6, 7, 9, 18, 27, 61, 63] [] Try.func3 rfl (by decide) (by kernel_rfl) rfl ?_
  simp
  refine callT_eq [] Awk8_T ?_
  simp
  refine callT_ex2 [(2, 10), (1001, 1001)] New1_T ?_
  simp [i64v]
  intro v u
  refine loopT_of (Nat × Tab × Nat) (fun x => x.1 ≤ l.length ∧ x.1 ≤ 150 ∧ x.2.1.WF ∧ x.2.1.next ≤ x.1 + 1) (fun x => ⟨[(0, .isl (rowA l) l.length), (3, .at 10 v 0), (4, i64v (x.2.1.next - 1)), (5, .v (.int .i64 x.1))], [(10, v, ⟨0, [.sl 1001 x.2.2 0 x.2.1.l.length, i64v x.2.1.next]⟩), (1001, x.2.2, ⟨6, rowU x.2.1.l⟩)]⟩) (fun x => l.length - x.1) (0, ⟨[], 1⟩, u) ⟨by simp, by simp, wf0, by simp⟩ (by simp [i64v]) (by simp [i64v]) ?_
  rintro ⟨i, t, u1⟩ ⟨hi, hi2, hwf, hnx⟩
  simp only at hi hi2 hwf hnx ⊢
  by_cases h1 : i < l.length ∧ i < 150
  · obtain ⟨h1, h2⟩ := h1
    have h2' : (i : Int) < 150 := by omega
    simp [h1, h2', rowA_at h1, i64v]
    refine ⟨fun h3 => ?_, fun h3 => ?_⟩
    · refine callT_eq [(1000, 10), (1001, 1001)] (Nth_T v u1 t (bits .and .i64 l[i].x 63)) ?_
      simp [i64v]
      refine callT_ex [(1000, 10), (1001, 1001)] (Kill_T v u1 t (t.nth (bits .and .i64 l[i].x 63)) hwf.ok) ?_
      simp [i64v]
      intro u2
      generalize ht1 : t.kill (t.nth (bits .and .i64 l[i].x 63)) = t1
      have hwf1 : t1.WF := ht1 ▸ hwf.kill _
      have hn1 : t1.next = t.next := ht1 ▸ t.kill_next _
      have hlen1 := hwf1.len
      have hnx1 := hwf1.nx
      refine callT_eq [(1000, 10), (1001, 1001)] (Len_T v u2 t1) ?_
      simp [i64v]
      refine callT_ex [(1000, 10), (1001, 1001)] (Spawn_T v u2 t1 1 2 3 4 hwf1.ok (by omega)) ?_
      simp [i64v]
      intro u3
      have hwf2 := hwf1.spawn 1 2 3 4
      have hlen2 := hwf2.len
      have e4 : IntKind.i64.wrap ((i : Int) + 1) = ((i + 1 : Nat) : Int) := by rw [i64_id (by omega) (by omega)]; rfl
      rcases t1.spawn_num 1 2 3 4 hnx1.1 with ⟨e1, e2, e3⟩ | ⟨e1, e2, e3⟩
      · have hfull : (64 : Int) ≤ t1.l.length := by
          simp [Tab.canSpawn, mayF] at e3
          omega
        have hfull' : ¬ (64 : Int) < t1.l.length := by omega
        simp [e1, e2, hfull]
        refine callT_eq [(1000, 10), (1001, 1001)] (Len_T v u3 t1) ?_
        simp [i64v, hfull']
        exact SLx.again (i + 1, t1, u3) ⟨by simp only; omega, by simp only; omega, hwf1, by simp only; omega⟩ (by simp only; omega) (by simp [e4, hn1, i64v]) (by simp [i64v])
      · have hnot : ¬ (64 : Int) ≤ t1.l.length := by
          simp [Tab.canSpawn, mayF] at e3
          omega
        have hnz : ¬ t1.next = 0 := by omega
        have e5 : IntKind.i64.wrap t.next = t1.next := by rw [i64_id (by omega) (by omega)]; omega
        have e6 : IntKind.i64.wrap t1.next = t1.next := i64_id (by omega) (by omega)
        have hle2 : ¬ (64 : Int) < (t1.spawn 1 2 3 4).1.l.length := by omega
        simp [e1, hnot, hnz, e5, e6]
        refine callT_eq [(1000, 10), (1001, 1001)] (Len_T v u3 (t1.spawn 1 2 3 4).1) ?_
        simp [i64v, hle2, hnz]
        exact SLx.again (i + 1, (t1.spawn 1 2 3 4).1, u3) ⟨by simp only; omega, by simp only; omega, hwf2, by simp only [e2]; omega⟩ (by simp only; omega) (by simp [e4, e2, i64v]) (by simp [i64v])
    · obtain ⟨t1, ht1⟩ : ∃ t1, t1 = t := ⟨_, rfl⟩
      obtain ⟨u2, hu2⟩ : ∃ u2, u2 = u1 := ⟨_, rfl⟩
      have hwf1 : t1.WF := ht1 ▸ hwf
      have hn1 : t1.next = t.next := by rw [ht1]
      rw [← hu2, ← hn1]
      have hn1 : t1.next = t1.next := rfl
      have hnx : t1.next ≤ i + 1 := by rw [ht1]; exact hnx
      rw [show t.l = t1.l by rw [ht1]]
      have hlen1 := hwf1.len
      have hnx1 := hwf1.nx
      refine callT_eq [(1000, 10), (1001, 1001)] (Len_T v u2 t1) ?_
      simp [i64v]
      refine callT_ex [(1000, 10), (1001, 1001)] (Spawn_T v u2 t1 1 2 3 4 hwf1.ok (by omega)) ?_
      simp [i64v]
      intro u3
      have hwf2 := hwf1.spawn 1 2 3 4
      have hlen2 := hwf2.len
      have e4 : IntKind.i64.wrap ((i : Int) + 1) = ((i + 1 : Nat) : Int) := by rw [i64_id (by omega) (by omega)]; rfl
      rcases t1.spawn_num 1 2 3 4 hnx1.1 with ⟨e1, e2, e3⟩ | ⟨e1, e2, e3⟩
      · have hfull : (64 : Int) ≤ t1.l.length := by
          simp [Tab.canSpawn, mayF] at e3
          omega
        have hfull' : ¬ (64 : Int) < t1.l.length := by omega
        simp [e1, e2, hfull]
        refine callT_eq [(1000, 10), (1001, 1001)] (Len_T v u3 t1) ?_
        simp [i64v, hfull']
        exact SLx.again (i + 1, t1, u3) ⟨by simp only; omega, by simp only; omega, hwf1, by simp only; omega⟩ (by simp only; omega) (by simp [e4, hn1, i64v]) (by simp [i64v])
      · have hnot : ¬ (64 : Int) ≤ t1.l.length := by
          simp [Tab.canSpawn, mayF] at e3
          omega
        have hnz : ¬ t1.next = 0 := by omega
        have e5 : IntKind.i64.wrap t1.next = t1.next := i64_id (by omega) (by omega)
        have e6 : IntKind.i64.wrap t1.next = t1.next := i64_id (by omega) (by omega)
        have hle2 : ¬ (64 : Int) < (t1.spawn 1 2 3 4).1.l.length := by omega
        simp [e1, hnot, hnz, e5, e6]
        refine callT_eq [(1000, 10), (1001, 1001)] (Len_T v u3 (t1.spawn 1 2 3 4).1) ?_
        simp [i64v, hle2, hnz]
        exact SLx.again (i + 1, (t1.spawn 1 2 3 4).1, u3) ⟨by simp only; omega, by simp only; omega, hwf2, by simp only [e2]; omega⟩ (by simp only; omega) (by simp [e4, e2, i64v]) (by simp [i64v])
  · by_cases h3 : i < l.length
    · have h2 : ¬ (i : Int) < 150 := fun h => h1 ⟨h3, by omega⟩
      simp [h3, h2]
    · simp [h3]
end Go.Proofs.Ytfhckddfmlljfaa.TL
