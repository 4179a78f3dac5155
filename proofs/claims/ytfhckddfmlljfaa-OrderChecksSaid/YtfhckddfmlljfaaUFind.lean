/- Units: where a number stands. -/
import Derived.Test.YtfhckddfmlljfaaUUnit
namespace Go.Proofs.Ytfhckddfmlljfaa.TL
open Go
set_option linter.unusedVariables false
set_option linter.unusedSimpArgs false

def cmpI (a b : Int) : Int := if a < b then -1 else if b < a then 1 else 0
set_option maxRecDepth 100000 in
theorem Cmp_T (u : Un) (id : Int) : callT Try.prog 74 [.agg u.cells, i64v id] ⟨[], []⟩ (fun r h => r = i64v (cmpI u.id id) ∧ h = []) := by
  refine callT_of_body [0, 1, 2, 4, 5, 10] [] Try.func74 rfl (by decide) (by kernel_rfl) rfl ?_
  by_cases h1 : u.id < id
  · simp [Un.cells, i64v, cmpI, h1]
  · by_cases h2 : id < u.id <;> simp [Un.cells, i64v, cmpI, h1, h2]

/-- Units by rising numbers. -/
def Asc (l : List Un) : Prop := ∀ i j (h : i < j) (hj : j < l.length), l[i].id < l[j].id
/-- Where a number stands, or would. -/
def pos (l : List Un) (id : Int) : Nat := (l.takeWhile fun u => decide (u.id < id)).length
theorem pos_eq {id : Int} : ∀ {l : List Un} {i : Nat}, i ≤ l.length → (∀ k (h : k < l.length), k < i → l[k].id < id) → (∀ k (h : k < l.length), i ≤ k → id ≤ l[k].id) → pos l id = i
  | [], i, hi, _, _ => by simp at hi; simp [pos, hi]
  | u :: l, 0, _, _, h2 => by
    have := h2 0 (by simp) (Nat.le_refl _)
    simp only [List.getElem_cons_zero] at this
    simp [pos, List.takeWhile_cons, Int.not_lt.2 this]
  | u :: l, i + 1, hi, h1, h2 => by
    have h0 := h1 0 (by simp) (by omega)
    simp only [List.getElem_cons_zero] at h0
    have := pos_eq (l := l) (i := i) (by simpa using hi) (fun k h hk => by have := h1 (k + 1) (by simpa using h) (by omega); simpa using this) (fun k h hk => by have := h2 (k + 1) (by simpa using h) (by omega); simpa using this)
    simp only [pos] at this ⊢
    simp [List.takeWhile_cons, h0, this]
def found (l : List Un) (id : Int) : Bool := match l[pos l id]? with | some u => decide (u.id = id) | none => false

set_option maxRecDepth 100000 in
theorem Search_T (u : Nat) (l : List Un) (id : Int) (ha : Asc l) (hl : l.length ≤ 1000000) :
    callT Try.prog 73 [.sl 1000 u 0 l.length, i64v id, .v (.func (.func 74) #[] #[])] ⟨[], [(1000, u, ⟨6, rowU l⟩)]⟩
      (fun r h => r = .tup [i64v (pos l id), .v (.bool (found l id))] ∧ h = [(1000, u, ⟨6, rowU l⟩)]) := by
  refine callT_of_body [0, 1, 2, 6, 7, 8, 9, 10, 11, 17, 31] [1000] Try.func73 rfl (by decide) (by kernel_rfl) rfl ?_
  simp [i64v]
  refine loopT_of (Nat × Nat) (fun x => x.1 ≤ x.2 ∧ x.2 ≤ l.length ∧ (∀ k (h : k < l.length), k < x.1 → l[k].id < id) ∧ ∀ k (h : k < l.length), x.2 ≤ k → id ≤ l[k].id) (fun x => ⟨[(0, .sl 1000 u 0 l.length), (1, .v (.int .i64 id)), (2, .v (.func (.func 74) #[] #[])), (8, .v (.int .i64 l.length)), (9, .v (.int .i64 x.1)), (10, .v (.int .i64 x.2))], [(1000, u, ⟨6, rowU l⟩)]⟩) (fun x => x.2 - x.1) (0, l.length) ⟨by simp, by simp, fun k h hk => by omega, fun k h hk => by simp at hk; omega⟩ (by simp) (by simp) ?_
  rintro ⟨i, j⟩ ⟨hij, hj, hlo, hhi⟩
  simp only at hij hj hlo hhi ⊢
  by_cases h1 : i < j
  · obtain ⟨m, hm1, hm2, hmm⟩ : ∃ m, i ≤ m ∧ m < j ∧ (i + j) / 2 = m := ⟨(i + j) / 2, by omega, by omega, rfl⟩
    have hm : m < l.length := by omega
    have e1 : IntKind.i64.wrap ((i : Int) + j) = (i : Int) + j := i64_id (by omega) (by omega)
    have e2 : IntKind.u64.wrap ((i : Int) + j) = (i : Int) + j := u64_id (by omega) (by omega)
    have e3 : ((i : Int) + j).fdiv (2 ^ min 1 IntKind.u64.bits) = (m : Int) := by
      have : min 1 IntKind.u64.bits = 1 := by decide
      rw [this, Int.fdiv_eq_ediv_of_nonneg _ (by decide)]
      omega
    have e4 : IntKind.i64.wrap (m : Int) = (m : Int) := i64_id (by omega) (by omega)
    simp [h1, e1, e2, e3, e4, hm, rowU_at hm]
    refine callT_eq [] (Cmp_T l[m] id) ?_
    by_cases h2 : l[m].id < id
    · simp [h2, cmpI, i64v, Un.cells]
      have e5 : IntKind.i64.wrap ((m : Int) + 1) = ((m + 1 : Nat) : Int) := by rw [i64_id (by omega) (by omega)]; rfl
      refine SLx.again (m + 1, j) ⟨by simp only; omega, hj, fun k h hk => ?_, hhi⟩ (by simp only; omega) (by simp [e5]) (by simp)
      by_cases hkm : k = m
      · subst hkm; exact h2
      · have := ha k m (by simp only at hk; omega) hm
        omega
    · have h3 : ¬ cmpI l[m].id id < 0 := by unfold cmpI; rw [if_neg h2]; split <;> decide
      simp [h3, i64v, Un.cells]
      refine SLx.again (i, m) ⟨hm1, by simp only; omega, hlo, fun k h hk => ?_⟩ (by simp only; omega) (by simp) (by simp)
      by_cases hkm : k = m
      · subst hkm; omega
      · have := ha m k (by simp only at hk; omega) h
        omega
  · have hji : i = j := by omega
    subst hji
    have hp := pos_eq hj hlo hhi
    by_cases h2 : i < l.length
    · simp [h2, rowU_at h2]
      refine callT_eq [] (Cmp_T l[i] id) ?_
      have h3 : decide (cmpI l[i].id id = 0) = decide (l[i].id = id) := by
        have := hhi i h2 (Nat.le_refl _)
        unfold cmpI
        rw [if_neg (by omega)]
        by_cases h4 : id < l[i].id
        · rw [if_pos h4]; have : ¬ l[i].id = id := by omega
          simp [this]
        · rw [if_neg h4]; have : l[i].id = id := by omega
          simp [this]
      simp [i64v, Un.cells, found, hp, h2, h3]
    · simp [h2, found, hp, i64v]

structure Tab.Ok (t : Tab) : Prop where
  asc : Asc t.l
  len : t.l.length ≤ 1000000

set_option maxRecDepth 100000 in
theorem Find_T (v u : Nat) (t : Tab) (id : Int) (ht : t.Ok) : callT Try.prog 46 [.at 1000 v 0, i64v id] ⟨[], tabH v u t⟩ (fun r h => r = .tup [i64v (pos t.l id), .v (.bool (found t.l id))] ∧ h = tabH v u t) := by
  refine callT_of_body [0, 1, 4, 5] [1000, 1001] Try.func46 rfl (by decide) (by kernel_rfl) rfl ?_
  simp
  refine callT_eq [(1000, 1001)] (Search_T u t.l id ht.asc ht.len) ?_
  simp [i64v]

/-- A unit of that number. -/
def Tab.unit (t : Tab) (id : Int) : Un × Bool := if found t.l id then ((t.l[pos t.l id]?).getD ⟨0, 0, 0, 0, 0, 0⟩, true) else (⟨0, 0, 0, 0, 0, 0⟩, false)
theorem found_lt {l : List Un} {id : Int} (h : found l id = true) : pos l id < l.length := by
  unfold found at h
  split at h
  · rename_i u hu; exact (List.getElem?_eq_some_iff.1 hu).1
  · cases h

set_option maxRecDepth 100000 in
theorem Unit_T (v u : Nat) (t : Tab) (id : Int) (ht : t.Ok) : callT Try.prog 18 [.at 1000 v 0, i64v id] ⟨[], tabH v u t⟩ (fun r h => r = .tup [.agg (t.unit id).1.cells, .v (.bool (t.unit id).2)] ∧ h = tabH v u t) := by
  refine callT_of_body [0, 1, 4, 5, 6, 7, 15] [1000, 1001] Try.func18 rfl (by decide) (by kernel_rfl) rfl ?_
  simp
  intro v4
  refine callT_eq [(1000, 1000), (1001, 1001)] (Find_T v u t id ht) ?_
  by_cases hf : found t.l id = true
  · have hp := found_lt hf
    simp [hf, hp, rowU_at hp, Tab.unit, i64v, Un.cells]
  · simp [hf, Tab.unit, i64v, Un.cells]
end Go.Proofs.Ytfhckddfmlljfaa.TL
