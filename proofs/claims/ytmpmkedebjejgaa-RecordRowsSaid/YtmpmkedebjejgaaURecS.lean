/- The laws' Same: of batches; of records. -/
import Derived.Test.YtmpmkedebjejgaaURecT
import Derived.Test.YtmpmkedebjejgaaURosS
namespace Go.Proofs.Ytmpmkedebjejgaa.TL
open Go
set_option linter.unusedVariables false
set_option linter.unusedSimpArgs false

noncomputable instance : DecidableEq Ord := fun _ _ => Classical.propDecidable _
noncomputable instance : DecidableEq Chg := fun _ _ => Classical.propDecidable _
noncomputable instance : DecidableEq Ply := fun _ _ => Classical.propDecidable _
noncomputable instance : DecidableEq Rec := fun _ _ => Classical.propDecidable _
theorem ord_ext {a b : Ord} (h1 : a.k = b.k) (h2 : a.u = b.u) (h3 : a.a = b.a) (h4 : a.b = b.b) : a = b := by cases a; cases b; simp_all
theorem chg_ext {a b : Chg} (h1 : a.k = b.k) (h2 : a.p = b.p) (h3 : a.v = b.v) : a = b := by cases a; cases b; simp_all
theorem ply_ext {a b : Ply} (h1 : a.p = b.p) (h2 : a.b = b.b) : a = b := by cases a; cases b; simp_all
set_option maxHeartbeats 1000000 in
set_option maxRecDepth 100000 in
theorem Same9_T (a b : List Ord) (hb : b.length ≤ 1000000) : callT Try.prog 30 [.isl (rowC a) a.length, .isl (rowC b) b.length] ⟨[], []⟩ (fun x h => x = i64c (if a = b then 0 else -1) ∧ h = []) := by
  refine callT_of_body [0, 1, 4, 5, 10, 12, 13, 14, 24] [] Try.func30 rfl (by decide) (by kernel_rfl) rfl ?_
  by_cases hl : a.length = b.length
  · simp [i64c, hl]
    refine loopT_of (Nat × Nat) (fun x => x.1 ≤ b.length ∧ ∀ i (ha : i < a.length) (hb : i < b.length), i < x.1 → a[i] = b[i]) (fun x => ⟨[(0, .isl (rowC a) b.length), (1, .isl (rowC b) b.length), (12, .v (.int .i64 b.length)), (13, .v (.int .i64 x.1))], []⟩) (fun x => b.length - x.1) (0, 0) ⟨by simp, fun i _ _ hi => by simp at hi⟩ (by simp) (by simp) ?_
    rintro ⟨k, z⟩ ⟨hk, hok⟩
    simp only at hk hok ⊢
    by_cases h1 : k < b.length
    · have h2 : k < a.length := by omega
      have hle : b.length ≤ a.length := by omega
      have hat := rowC_at h2
      have hat2 := rowC_at h1
      have e1 : IntKind.i64.wrap ((k : Int) + 1) = ((k + 1 : Nat) : Int) := by rw [i64_id (by omega) (by omega)]; rfl
      simp [h1, i64c]
      refine draw_quiet (by kernel_rfl) (by kernel_rfl) (by kernel_rfl) ?_
      simp [h1, hat, hat2, i64c, hle]
      refine ⟨by omega, fun hne => ?_, fun q1 q2 q3 q4 => ?_⟩
      · have : ¬ a = b := fun h => by subst h; simp at hne
        exact this
      · have hok2 : ∀ i (ha : i < a.length) (hb : i < b.length), i < k + 1 → a[i] = b[i] := fun i ha hb hi => by
          by_cases hik : i = k
          · subst hik; exact ord_ext q1 q2 q3 q4
          · exact hok i ha hb (by omega)
        exact SLx.again (k + 1, 0) ⟨by simp only; omega, hok2⟩ (by simp only; omega) (by simp [e1]) (by simp)
    · have hk2 : k = b.length := by omega
      subst hk2
      have heq : a = b := List.ext_getElem hl fun i ha hb => hok i ha hb hb
      simp [i64c, heq]
  · have hne : ¬ a = b := fun h => hl (by rw [h])
    have hl2 : ¬ (a.length : Int) = b.length := by omega
    simp [i64c, hl, hl2, hne]

set_option maxHeartbeats 4000000 in
set_option maxRecDepth 100000 in
theorem RcSame_T (r x : Rec) (hc : x.c.length ≤ 1000) (hl : x.l.length ≤ 1000) (hv : ∀ c ∈ x.c, c.v.length ≤ 1000000) (hb : ∀ c ∈ x.l, c.b.length ≤ 1000000) : callT Try.prog 12 [.agg r.cells, .agg x.cells] ⟨[], []⟩ (fun y h => y = i64c (if r = x then 0 else -1) ∧ h = []) := by
  refine callT_of_body [0, 1, 2, 3, 4, 5, 6, 7, 8, 9, 39, 41, 42, 43, 44, 72, 75, 76, 77, 78, 102] [] Try.func12 rfl (by decide) (by kernel_rfl) rfl ?_
  simp [Rec.cells, i64c]
  intro v2 v3
  by_cases g1 : r.t = x.t
  case neg =>
    have hne : ¬ r = x := fun h => g1 (by rw [h])
    simp [g1, hne]
  by_cases g2 : r.pt = x.pt
  case neg =>
    have hne : ¬ r = x := fun h => g2 (by rw [h])
    simp [g1, g2, hne]
  by_cases g3 : r.pd = x.pd
  case neg =>
    have hne : ¬ r = x := fun h => g3 (by rw [h])
    simp [g1, g2, g3, hne]
  by_cases g4 : r.c.length = x.c.length
  case neg =>
    have hne : ¬ r = x := fun h => g4 (by rw [h])
    have g4' : ¬ (r.c.length : Int) = x.c.length := by omega
    simp [g1, g2, g3, g4, g4', hne]
  by_cases g5 : r.l.length = x.l.length
  case neg =>
    have hne : ¬ r = x := fun h => g5 (by rw [h])
    have g5' : ¬ (r.l.length : Int) = x.l.length := by omega
    simp [g1, g2, g3, g4, g5, g5', hne]
  simp [g1, g2, g3, g4, g5]
  have hfin : (∀ i (ha : i < r.c.length) (hb : i < x.c.length), i < x.c.length → r.c[i] = x.c[i]) → (∀ i (ha : i < r.l.length) (hb : i < x.l.length), i < x.l.length → r.l[i] = x.l[i]) → r = x := fun q1 q2 => by
    have a1 : r.c = x.c := List.ext_getElem g4 fun i ha hb => q1 i ha hb hb
    have a2 : r.l = x.l := List.ext_getElem g5 fun i ha hb => q2 i ha hb hb
    cases r; cases x; simp_all
  refine loopT_of (Nat × Nat) (fun y => y.1 ≤ x.c.length ∧ ∀ i (ha : i < r.c.length) (hb : i < x.c.length), i < y.1 → r.c[i] = x.c[i]) (fun y => ⟨[(2, .at 2 v2 0), (3, .at 3 v3 0), (41, .isl (rowG x.c) x.c.length), (42, .v (.int .i64 x.c.length)), (43, .v (.int .i64 y.1))], [(2, v2, ⟨0, [i64c x.t, .isl (rowG r.c) x.c.length, i64c x.pt, i64c x.pd, .isl (rowP r.l) x.l.length]⟩), (3, v3, ⟨0, x.cells⟩)]⟩) (fun y => x.c.length - y.1) (0, 0) ⟨by simp, fun i _ _ hi => by simp at hi⟩ (by simp) (by simp [Rec.cells, i64c]) ?_
  rintro ⟨k, z⟩ ⟨hk, hok⟩
  simp only at hk hok ⊢
  by_cases h1 : k < x.c.length
  · have h2 : k < r.c.length := by omega
    have hat := rowG_at h2
    have hat2 := rowG_at h1
    have hvk := hv x.c[k] (List.getElem_mem h1)
    have e1 : IntKind.i64.wrap ((k : Int) + 1) = ((k + 1 : Nat) : Int) := by rw [i64_id (by omega) (by omega)]; rfl
    have hno : ¬ r.c[k] = x.c[k] → ¬ r = x := fun h hh => h (by subst hh; rfl)
    by_cases q1 : r.c[k].k = x.c[k].k
    case neg =>
      have hne := hno fun h => q1 (by rw [h])
      have q1' : ¬ x.c[k].k = r.c[k].k := fun h => q1 h.symm
      simp [h1, hat, hat2, Rec.cells, i64c]
      refine fun v6 => ⟨by omega, fun v7 => ?_⟩
      simp [q1, q1', hne]
    by_cases q2 : r.c[k].p = x.c[k].p
    case neg =>
      have hne := hno fun h => q2 (by rw [h])
      have q2' : ¬ x.c[k].p = r.c[k].p := fun h => q2 h.symm
      simp [h1, hat, hat2, Rec.cells, i64c]
      refine fun v6 => ⟨by omega, fun v7 => ?_⟩
      simp [q1, q2, q2', hne]
    simp [h1, hat, hat2, Rec.cells, i64c, q1, q2]
    refine fun v6 => ⟨by omega, fun v7 => ?_⟩
    refine callT_eq [] (Same_T r.c[k].v x.c[k].v hvk) ?_
    by_cases q3 : r.c[k].v = x.c[k].v
    case neg =>
      have hne := hno fun h => q3 (by rw [h])
      simp [i64c, q1, q2, q3, hne]
    simp [i64c, q1, q2, q3]
    have hok2 : ∀ i (ha : i < r.c.length) (hb : i < x.c.length), i < k + 1 → r.c[i] = x.c[i] := fun i ha hb hi => by
      by_cases hik : i = k
      · subst hik; exact chg_ext q1 q2 q3
      · exact hok i ha hb (by omega)
    exact SLx.again (k + 1, 0) ⟨by simp only; omega, hok2⟩ (by simp only; omega) (by simp [e1]) (by simp [Rec.cells, i64c])
  · have hk2 : k = x.c.length := by omega
    subst hk2
    simp [Rec.cells, i64c]
    refine loopT_of (Nat × Nat) (fun y => y.1 ≤ x.l.length ∧ ∀ i (ha : i < r.l.length) (hb : i < x.l.length), i < y.1 → r.l[i] = x.l[i]) (fun y => ⟨[(2, .at 2 v2 0), (3, .at 3 v3 0), (75, .isl (rowP x.l) x.l.length), (76, .v (.int .i64 x.l.length)), (77, .v (.int .i64 y.1))], [(2, v2, ⟨0, [i64c x.t, .isl (rowG r.c) x.c.length, i64c x.pt, i64c x.pd, .isl (rowP r.l) x.l.length]⟩), (3, v3, ⟨0, x.cells⟩)]⟩) (fun y => x.l.length - y.1) (0, 0) ⟨by simp, fun i _ _ hi => by simp at hi⟩ (by simp) (by simp [Rec.cells, i64c]) ?_
    rintro ⟨j, z⟩ ⟨hj, hjk⟩
    simp only at hj hjk ⊢
    by_cases h3 : j < x.l.length
    · have h4 : j < r.l.length := by omega
      have hat := rowP_at h4
      have hat2 := rowP_at h3
      have hbj := hb x.l[j] (List.getElem_mem h3)
      have e1 : IntKind.i64.wrap ((j : Int) + 1) = ((j + 1 : Nat) : Int) := by rw [i64_id (by omega) (by omega)]; rfl
      have hno : ¬ r.l[j] = x.l[j] → ¬ r = x := fun h hh => h (by subst hh; rfl)
      by_cases q1 : r.l[j].p = x.l[j].p
      case neg =>
        have hne := hno fun h => q1 (by rw [h])
        simp [h3, hat, hat2, Rec.cells, i64c]
        intro v9
        refine draw_g [0, 1, 2, 3, 4, 5, 6, 7, 8, 9, 10, 11, 12, 13, 14, 15, 16, 17] 18 [] (by kernel_rfl) (by kernel_rfl) (by kernel_rfl) ?_
        simp [h3, hat, hat2, i64c, q1, hne]
        omega
      simp [h3, hat, hat2, Rec.cells, i64c]
      intro v9
      refine draw_g [0, 1, 2, 3, 4, 5, 6, 7, 8, 9, 10, 11, 12, 13, 14, 15, 16, 17] 18 [] (by kernel_rfl) (by kernel_rfl) (by kernel_rfl) ?_
      simp [h3, hat, hat2, i64c, q1]
      refine ⟨by omega, ?_⟩
      refine callT_eq [] (Same9_T r.l[j].b x.l[j].b hbj) ?_
      by_cases q2 : r.l[j].b = x.l[j].b
      case neg =>
        have hne := hno fun h => q2 (by rw [h])
        simp [i64c, q1, q2, hne]
      simp [i64c, q1, q2]
      have hjk2 : ∀ i (ha : i < r.l.length) (hb : i < x.l.length), i < j + 1 → r.l[i] = x.l[i] := fun i ha hb hi => by
        by_cases hik : i = j
        · subst hik; exact ply_ext q1 q2
        · exact hjk i ha hb (by omega)
      exact SLx.again (j + 1, 0) ⟨by simp only; omega, hjk2⟩ (by simp only; omega) (by simp [e1]) (by simp [Rec.cells, i64c])
    · have hj2 : j = x.l.length := by omega
      subst hj2
      have heq := hfin hok hjk
      simp [i64c, heq]
end Go.Proofs.Ytmpmkedebjejgaa.TL
