/- Units: what their functions do. -/
import Derived.Test.YtnkdkajllmopaaaGreatTy
import Derived.Test.YtnkdkajllmopaaaGreatTbits
import Derived.Test.YtnkdkajllmopaaaGreatUOut
import Derived.Test.YtnkdkajllmopaaaGreatUR2
import Derived.Test.YtnkdkajllmopaaaGreatTz
/- Units: where a number stands. -/
/- Units: one goes, one comes, one changes. -/
/- Units: one changes; all of them. -/
/- The laws UnitNumbers and UnitSets, as the code runs. -/
/- Units: their bytes. -/
/- The reference's units: what its functions do. -/
/- The reference's units: one goes, one changes. -/
/- The reference's units: their bytes. -/
/- The law UnitSets, as the code runs. -/
/- The law's Does. -/
namespace Go.Proofs.YtnkdkajllmopaaaGreat.TL
open Go
set_option linter.unusedVariables false
set_option linter.unusedSimpArgs false

structure Un where
  id : Int
  a : Int
  b : Int
  c : Int
  d : Int
  e : Int
def i64v (n : Int) : TV := .v (.int .i64 n)
def Un.cells (u : Un) : List TV := [i64v u.id, i64v u.a, i64v u.b, i64v u.c, i64v u.d, i64v u.e]
def rowU (l : List Un) : List TV := (l.map Un.cells).flatten
structure Tab where
  l : List Un
  next : Int
abbrev tabH (v u : Nat) (t : Tab) : Heap := [(1000, v, ⟨0, [.sl 1001 u 0 t.l.length, i64v t.next]⟩), (1001, u, ⟨6, rowU t.l⟩)]

@[simp] theorem rowU_nil : rowU [] = [] := rfl
@[simp] theorem rowU_cons (o : Un) (l : List Un) : rowU (o :: l) = o.cells ++ rowU l := rfl
@[simp] theorem rowU_append (l l' : List Un) : rowU (l ++ l') = rowU l ++ rowU l' := by simp [rowU]
@[simp] theorem rowU_length : ∀ l : List Un, (rowU l).length = l.length * 6
  | [] => rfl
  | o :: l => by simp [rowU_length l, Un.cells]; omega
theorem rowU_drop : ∀ (n : Nat) (l : List Un), (rowU l).drop (n * 6) = rowU (l.drop n)
  | 0, l => by simp
  | n + 1, [] => by simp
  | n + 1, o :: l => by
    have := rowU_drop n l
    rw [show (n + 1) * 6 = 6 + n * 6 by omega, ← List.drop_drop]
    simpa [Un.cells] using this
theorem rowU_take : ∀ (n : Nat) (l : List Un), (rowU l).take (n * 6) = rowU (l.take n)
  | 0, l => by simp
  | n + 1, [] => by simp
  | n + 1, o :: l => by
    have := rowU_take n l
    rw [show (n + 1) * 6 = n * 6 + 6 by omega]
    simpa [Un.cells] using this
theorem rowU_at {l : List Un} {k : Nat} (h : k < l.length) : List.drop (k * 6) (rowU l) = i64v l[k].id :: i64v l[k].a :: i64v l[k].b :: i64v l[k].c :: i64v l[k].d :: i64v l[k].e :: rowU (l.drop (k + 1)) := by
  rw [rowU_drop, List.drop_eq_getElem_cons h]; rfl
theorem rowU_clo (l : List Un) : CloL (rowU l) ∧ AllC (rowU l) := by
  induction l with
  | nil => simp
  | cons o l ih => simp [Un.cells, i64v, ih.1, ih.2]
@[simp] theorem rowU_CloL (l : List Un) : CloL (rowU l) := (rowU_clo l).1
@[simp] theorem rowU_AllC (l : List Un) : AllC (rowU l) := (rowU_clo l).2

def mayF (f x : Int) : Bool := if f = 0 ∨ f = 1 then decide (0 ≤ x) && decide (x ≤ 255) else if f = 2 ∨ f = 3 then decide (-1000 ≤ x) && decide (x ≤ 1000) else decide (1 ≤ x) && decide (x ≤ 1000)

set_option maxRecDepth 100000 in
theorem May_T (f x : Int) : callT Tryz.prog 121 [i64v f, i64v x] ⟨[], []⟩ (fun r h => r = .v (.bool (mayF f x)) ∧ h = []) := by
  refine callT_of_body [0, 1, 4, 5, 6, 15] [] Tryz.func121 rfl (by decide) (by kernel_rfl) rfl ?_
  by_cases h0 : f = 0
  · simp [i64v, h0, mayF]
  · by_cases h1 : f = 1
    · simp [i64v, h0, h1, mayF]
    · by_cases h2 : f = 2
      · simp [i64v, h0, h1, h2, mayF]
      · by_cases h3 : f = 3 <;> simp [i64v, h0, h1, h2, h3, mayF]

set_option maxRecDepth 100000 in
theorem New_T : callT Tryz.prog 57 [] ⟨[], []⟩ (fun r h => ∃ v, r = .at 2 v 0 ∧ h = [(2, v, ⟨0, [.v (.slice none 0 0), i64v 1]⟩)]) := by
  refine callT_of_body [0] [2] Tryz.func57 rfl (by decide) (by kernel_rfl) rfl ?_
  simp [i64v]

set_option maxRecDepth 100000 in
theorem Len_T (v u : Nat) (t : Tab) : callT Tryz.prog 158 [.at 1000 v 0] ⟨[], tabH v u t⟩ (fun r h => r = i64v t.l.length ∧ h = tabH v u t) := by
  refine callT_of_body [0, 2] [1000, 1001] Tryz.func158 rfl (by decide) (by kernel_rfl) rfl ?_
  simp [i64v]

def Tab.nth (t : Tab) (n : Int) : Int := if n < 0 ∨ (t.l.length : Int) ≤ n then 0 else ((t.l[n.toNat]?).map Un.id).getD 0

set_option maxRecDepth 100000 in
theorem Nth_T (v u : Nat) (t : Tab) (n : Int) : callT Tryz.prog 164 [.at 1000 v 0, i64v n] ⟨[], tabH v u t⟩ (fun r h => r = i64v (t.nth n) ∧ h = tabH v u t) := by
  refine callT_of_body [0, 1, 4, 15] [1000, 1001] Tryz.func164 rfl (by decide) (by kernel_rfl) rfl ?_
  by_cases h0 : n < 0
  · simp [i64v, h0, Tab.nth]
  · by_cases h1 : (t.l.length : Int) ≤ n
    · simp [i64v, h0, h1, Tab.nth]
    · obtain ⟨k, rfl⟩ : ∃ k : Nat, n = k := ⟨n.toNat, by omega⟩
      have hk : k < t.l.length := by omega
      have h2 : ¬ t.l.length ≤ k := by omega
      simp [i64v, h2, hk, rowU_at hk, Tab.nth]
      exact ⟨fun h => by omega, fun h => by omega⟩

set_option maxRecDepth 100000 in
theorem Clone_T (u n : Nat) (cs : List TV) (hn : 0 < n) (hl : cs.length = n * 6) (hc : AllC cs) (hcl : CloL cs) (hb : n ≤ 1000000) :
    callT Tryz.prog 166 [.sl 1000 u 0 n] ⟨[], [(1000, u, ⟨6, cs⟩)]⟩ (fun r h => ∃ u', r = .sl 5 u' 0 n ∧ h = [(1000, u, ⟨6, cs⟩), (5, u', ⟨6, cs⟩)]) := by
  refine callT_of_body [0, 2, 4] [1000, 5] Tryz.func166 rfl (by decide) (by kernel_rfl) rfl ?_
  have hn0 : n ≠ 0 := by omega
  have e1 : List.take (n * 6) cs = cs := List.take_of_length_le (by omega)
  simp [e1, hl, hc, hn0]
  omega
end Go.Proofs.YtnkdkajllmopaaaGreat.TL

namespace Go.Proofs.YtnkdkajllmopaaaGreat.TL
open Go
set_option linter.unusedVariables false
set_option linter.unusedSimpArgs false

def cmpI (a b : Int) : Int := if a < b then -1 else if b < a then 1 else 0
set_option maxRecDepth 100000 in
theorem Cmp_T (u : Un) (id : Int) : callT Tryz.prog 111 [.agg u.cells, i64v id] ⟨[], []⟩ (fun r h => r = i64v (cmpI u.id id) ∧ h = []) := by
  refine callT_of_body [0, 1, 2, 4, 5, 10] [] Tryz.func111 rfl (by decide) (by kernel_rfl) rfl ?_
  by_cases h1 : u.id < id
  · simp [Un.cells, i64v, cmpI, h1]
  · by_cases h2 : id < u.id <;> simp [Un.cells, i64v, cmpI, h1, h2]

/-- Units by rising numbers. -/
def Asc (l : List Un) : Prop := ∀ i j (h : i < j) (hj : j < l.length), l[i].id < l[j].id
/-- Where a number stands, or would. -/
def pos (l : List Un) (id : Int) : Nat := (l.takeWhile fun u => decide (u.id < id)).length
theorem pos_eq {id : Int} : ∀ {l : List Un} {i : Nat}, i ≤ l.length → (∀ k (h : k < l.length), k < i → l[k].id < id) → (∀ k (h : k < l.length), i ≤ k → id ≤ l[k].id) → pos l id = i
  | [], i, hi, _, _ => by simp at hi; simp [pos, hi]
  | u :: l, 0, _, _, h2 => by
    have := h2 0 (by simp) (Nat.le_refl _)
    simp only [List.getElem_cons_zero] at this
    simp [pos, List.takeWhile_cons, Int.not_lt.2 this]
  | u :: l, i + 1, hi, h1, h2 => by
    have h0 := h1 0 (by simp) (by omega)
    simp only [List.getElem_cons_zero] at h0
    have := pos_eq (l := l) (i := i) (by simpa using hi) (fun k h hk => by have := h1 (k + 1) (by simpa using h) (by omega); simpa using this) (fun k h hk => by have := h2 (k + 1) (by simpa using h) (by omega); simpa using this)
    simp only [pos] at this ⊢
    simp [List.takeWhile_cons, h0, this]
def found (l : List Un) (id : Int) : Bool := match l[pos l id]? with | some u => decide (u.id = id) | none => false

set_option maxRecDepth 100000 in
theorem Search_T (u : Nat) (l : List Un) (id : Int) (ha : Asc l) (hl : l.length ≤ 1000000) :
    callT Tryz.prog 110 [.sl 1000 u 0 l.length, i64v id, .v (.func (.func 111) #[] #[])] ⟨[], [(1000, u, ⟨6, rowU l⟩)]⟩
      (fun r h => r = .tup [i64v (pos l id), .v (.bool (found l id))] ∧ h = [(1000, u, ⟨6, rowU l⟩)]) := by
  refine callT_of_body [0, 1, 2, 6, 7, 8, 9, 10, 11, 17, 31] [1000] Tryz.func110 rfl (by decide) (by kernel_rfl) rfl ?_
  simp [i64v]
  refine loopT_of (Nat × Nat) (fun x => x.1 ≤ x.2 ∧ x.2 ≤ l.length ∧ (∀ k (h : k < l.length), k < x.1 → l[k].id < id) ∧ ∀ k (h : k < l.length), x.2 ≤ k → id ≤ l[k].id) (fun x => ⟨[(0, .sl 1000 u 0 l.length), (1, .v (.int .i64 id)), (2, .v (.func (.func 111) #[] #[])), (8, .v (.int .i64 l.length)), (9, .v (.int .i64 x.1)), (10, .v (.int .i64 x.2))], [(1000, u, ⟨6, rowU l⟩)]⟩) (fun x => x.2 - x.1) (0, l.length) ⟨by simp, by simp, fun k h hk => by omega, fun k h hk => by simp at hk; omega⟩ (by simp) (by simp) ?_
  rintro ⟨i, j⟩ ⟨hij, hj, hlo, hhi⟩
  simp only at hij hj hlo hhi ⊢
  by_cases h1 : i < j
  · obtain ⟨m, hm1, hm2, hmm⟩ : ∃ m, i ≤ m ∧ m < j ∧ (i + j) / 2 = m := ⟨(i + j) / 2, by omega, by omega, rfl⟩
    have hm : m < l.length := by omega
    have e1 : IntKind.i64.wrap ((i : Int) + j) = (i : Int) + j := i64_id (by omega) (by omega)
    have e2 : IntKind.u64.wrap ((i : Int) + j) = (i : Int) + j := u64_id (by omega) (by omega)
    have e3 : ((i : Int) + j).fdiv (2 ^ min 1 IntKind.u64.bits) = (m : Int) := by
      have : min 1 IntKind.u64.bits = 1 := by decide
      rw [this, Int.fdiv_eq_ediv_of_nonneg _ (by decide)]
      omega
    have e4 : IntKind.i64.wrap (m : Int) = (m : Int) := i64_id (by omega) (by omega)
    simp [h1, e1, e2, e3, e4, hm, rowU_at hm]
    refine callT_eq [] (Cmp_T l[m] id) ?_
    by_cases h2 : l[m].id < id
    · simp [h2, cmpI, i64v, Un.cells]
      have e5 : IntKind.i64.wrap ((m : Int) + 1) = ((m + 1 : Nat) : Int) := by rw [i64_id (by omega) (by omega)]; rfl
      refine SLx.again (m + 1, j) ⟨by simp only; omega, hj, fun k h hk => ?_, hhi⟩ (by simp only; omega) (by simp [e5]) (by simp)
      by_cases hkm : k = m
      · subst hkm; exact h2
      · have := ha k m (by simp only at hk; omega) hm
        omega
    · have h3 : ¬ cmpI l[m].id id < 0 := by unfold cmpI; rw [if_neg h2]; split <;> decide
      simp [h3, i64v, Un.cells]
      refine SLx.again (i, m) ⟨hm1, by simp only; omega, hlo, fun k h hk => ?_⟩ (by simp only; omega) (by simp) (by simp)
      by_cases hkm : k = m
      · subst hkm; omega
      · have := ha m k (by simp only at hk; omega) h
        omega
  · have hji : i = j := by omega
    subst hji
    have hp := pos_eq hj hlo hhi
    by_cases h2 : i < l.length
    · simp [h2, rowU_at h2]
      refine callT_eq [] (Cmp_T l[i] id) ?_
      have h3 : decide (cmpI l[i].id id = 0) = decide (l[i].id = id) := by
        have := hhi i h2 (Nat.le_refl _)
        unfold cmpI
        rw [if_neg (by omega)]
        by_cases h4 : id < l[i].id
        · rw [if_pos h4]; have : ¬ l[i].id = id := by omega
          simp [this]
        · rw [if_neg h4]; have : l[i].id = id := by omega
          simp [this]
      simp [i64v, Un.cells, found, hp, h2, h3]
    · simp [h2, found, hp, i64v]

structure Tab.Ok (t : Tab) : Prop where
  asc : Asc t.l
  len : t.l.length ≤ 1000000

set_option maxRecDepth 100000 in
theorem Find_T (v u : Nat) (t : Tab) (id : Int) (ht : t.Ok) : callT Tryz.prog 99 [.at 1000 v 0, i64v id] ⟨[], tabH v u t⟩ (fun r h => r = .tup [i64v (pos t.l id), .v (.bool (found t.l id))] ∧ h = tabH v u t) := by
  refine callT_of_body [0, 1, 4, 5] [1000, 1001] Tryz.func99 rfl (by decide) (by kernel_rfl) rfl ?_
  simp
  refine callT_eq [(1000, 1001)] (Search_T u t.l id ht.asc ht.len) ?_
  simp [i64v]

/-- A unit of that number. -/
def Tab.unit (t : Tab) (id : Int) : Un × Bool := if found t.l id then ((t.l[pos t.l id]?).getD ⟨0, 0, 0, 0, 0, 0⟩, true) else (⟨0, 0, 0, 0, 0, 0⟩, false)
theorem found_lt {l : List Un} {id : Int} (h : found l id = true) : pos l id < l.length := by
  unfold found at h
  split at h
  · rename_i u hu; exact (List.getElem?_eq_some_iff.1 hu).1
  · cases h

set_option maxRecDepth 100000 in
theorem Unit_T (v u : Nat) (t : Tab) (id : Int) (ht : t.Ok) : callT Tryz.prog 83 [.at 1000 v 0, i64v id] ⟨[], tabH v u t⟩ (fun r h => r = .tup [.agg (t.unit id).1.cells, .v (.bool (t.unit id).2)] ∧ h = tabH v u t) := by
  refine callT_of_body [0, 1, 4, 5, 6, 7, 15] [1000, 1001] Tryz.func83 rfl (by decide) (by kernel_rfl) rfl ?_
  simp
  intro v4
  refine callT_eq [(1000, 1000), (1001, 1001)] (Find_T v u t id ht) ?_
  by_cases hf : found t.l id = true
  · have hp := found_lt hf
    simp [hf, hp, rowU_at hp, Tab.unit, i64v, Un.cells]
  · simp [hf, Tab.unit, i64v, Un.cells]
end Go.Proofs.YtnkdkajllmopaaaGreat.TL

namespace Go.Proofs.YtnkdkajllmopaaaGreat.TL
open Go
set_option linter.unusedVariables false
set_option linter.unusedSimpArgs false

theorem eraseIdx_td {α : Type} (l : List α) (i : Nat) : l.eraseIdx i = l.take i ++ l.drop (i + 1) := List.eraseIdx_eq_take_drop_succ l i

set_option maxRecDepth 100000 in
theorem Delete_T (u : Nat) (l : List Un) (i : Nat) (hi : i < l.length) (hl : l.length ≤ 1000000) :
    callT Tryz.prog 165 [.sl 1000 u 0 l.length, i64v i, i64v ((i : Int) + 1)] ⟨[], [(1000, u, ⟨6, rowU l⟩)]⟩
      (fun r h => ∃ u', r = .sl 1000 u' 0 (l.length - 1) ∧ h = [(1000, u', ⟨6, rowU (l.eraseIdx i)⟩)]) := by
  refine callT.mono (K := fun r h => ∃ u' tail, r = .sl 1000 u' 0 (l.length - 1) ∧ h = [(1000, u', ⟨6, rowU (l.eraseIdx i) ++ tail⟩)]) ?_ fun r h hh => ?_
  · obtain ⟨A, x, B, rfl, rfl⟩ : ∃ A x B, l = A ++ x :: B ∧ i = A.length := ⟨l.take i, l[i], l.drop (i + 1), by rw [← List.drop_eq_getElem_cons hi, List.take_append_drop], by simp; omega⟩
    have er : (A ++ x :: B).eraseIdx A.length = A ++ B := by rw [eraseIdx_td]; simp
    rw [er]
    refine callT_of_body [0, 1, 2, 6, 7, 16] [1000] Tryz.func165 rfl (by decide) (by kernel_rfl) rfl ?_
    simp only [List.length_append, List.length_cons] at hl
    have h1 : ¬ (A.length : Int) = (A.length : Int) + 1 := by omega
    have h2 : ((A.length : Int) + 1) ≤ (A.length : Int) + ((B.length : Int) + 1) := by omega
    have h3 : (A.length : Int) ≤ (A.length : Int) + 1 := by omega
    have e1 : ((A.length : Int) + ((B.length : Int) + 1) - ((A.length : Int) + 1)).toNat = B.length := by omega
    have e2 : max ((A.length : Int) + ((B.length : Int) + 1) - ((A.length : Int) + 1)) 0 = B.length := by omega
    have e3 : ((A.length : Int) + (B.length : Int)).toNat = A.length + B.length := by omega
    have e4 : ((A.length : Int) + ((B.length : Int) + 1) - ((A.length : Int) + (B.length : Int))).toNat = 1 := by omega
    have d1 : List.drop ((A.length + 1) * 6) (rowU A ++ (x.cells ++ rowU B)) = rowU B := by
      have := rowU_drop (A.length + 1) (A ++ x :: B)
      simpa using this
    have d2 : List.take (A.length * 6) (rowU A ++ (x.cells ++ rowU B)) = rowU A := by
      simp
    have d3 : List.take (B.length * 6) (rowU B) = rowU B := List.take_of_length_le (by simp)
    have hxl : x.cells.length = 6 := rfl
    simp [i64v, h1, h2, h3]
    refine draw_one 6 26 (by kernel_rfl) (by kernel_rfl) (by kernel_rfl) (by kernel_rfl) (by kernel_rfl) ?_
    have m1 : min (B.length * 6) (A.length * 6 + (6 + B.length * 6) - (A.length + 1) * 6) = B.length * 6 := by omega
    have m2 : ¬ 6 + B.length * 6 ≤ B.length * 6 := by omega
    obtain ⟨T, hT⟩ : ∃ T, List.drop (A.length * 6 + B.length * 6) (rowU A ++ (x.cells ++ rowU B)) = T := ⟨_, rfl⟩
    have hTl : T.length = 6 := by rw [← hT]; simp [hxl]; omega
    have d4 : List.take ((A.length + B.length) * 6) (rowU A ++ (rowU B ++ T)) = rowU A ++ rowU B := by
      rw [← List.append_assoc]
      exact List.take_left' (by simp; omega)
    simp [e1, e2, e3, e4, d1, d2, d3, hxl, m1, m2, hT, hTl, d4]
    omega
  · obtain ⟨u', tail, rfl, rfl⟩ := hh
    refine VLx.trim 1000 (rowU (l.eraseIdx i)).length rfl (VLx.done ⟨u', rfl, ?_⟩)
    simp [setH]

theorem mvL_rowU {b ver b' ver' : Nat} (l : List Un) : mvL b ver b' ver' (rowU l) = rowU l := mvL_clo _ (rowU_CloL l)
attribute [simp] mvL_rowU

def Tab.kill (t : Tab) (id : Int) : Tab := if found t.l id then ⟨t.l.eraseIdx (pos t.l id), t.next⟩ else t

set_option maxRecDepth 100000 in
theorem Kill_T (v u : Nat) (t : Tab) (id : Int) (ht : t.Ok) : callT Tryz.prog 162 [.at 1000 v 0, i64v id] ⟨[], tabH v u t⟩ (fun r h => ∃ u', r = .v (.bool (found t.l id)) ∧ h = tabH v u' (t.kill id)) := by
  by_cases hf : found t.l id = true
  · have hp := found_lt hf
    refine callT.mono (K := fun r h => ∃ u', r = .v (.bool true) ∧ h = [(1000, v, ⟨0, [.sl 19 u' 0 (t.l.length - 1), i64v t.next]⟩), (19, u', ⟨6, rowU (t.l.eraseIdx (pos t.l id))⟩)]) ?_ fun r h hh => ?_
    · refine callT_of_body [0, 1, 4, 5, 6, 13] [1000, 19] Tryz.func162 rfl (by decide) (by kernel_rfl) rfl ?_
      simp
      refine callT_eq [(1000, 1000), (1001, 1001)] (Find_T v u t id ht) ?_
      simp [hf, i64v]
      refine callT_ex [(1000, 1001), (5, 19)] (Clone_T u t.l.length (rowU t.l) (by omega) (by simp) (by simp) (by simp) ht.len) ?_
      simp
      intro u1
      have e1 : IntKind.i64.wrap ((pos t.l id : Int) + 1) = (pos t.l id : Int) + 1 := i64_id (by omega) (by have := ht.len; omega)
      simp [e1]
      refine callT_ex [(1000, 19)] (Delete_T u1 t.l (pos t.l id) hp ht.len) ?_
      simp [i64v]
    · obtain ⟨u', rfl, rfl⟩ := hh
      refine VLx.mv 19 1001 rfl rfl fun u2 => VLx.done ⟨u2, by simp [hf], ?_⟩
      simp [i64v, Tab.kill, hf, List.length_eraseIdx_of_lt hp]
  · refine callT_of_body [0, 1, 4, 5, 6, 13] [1000, 1001] Tryz.func162 rfl (by decide) (by kernel_rfl) rfl ?_
    simp
    refine callT_eq [(1000, 1000), (1001, 1001)] (Find_T v u t id ht) ?_
    simp [hf, i64v, Tab.kill]

def Tab.canSpawn (t : Tab) (a b c d : Int) : Bool := decide (t.l.length < 64) && (mayF 0 a && (mayF 1 b && (mayF 2 c && (mayF 3 d && decide (t.next < 1099511627776)))))
def Tab.spawn (t : Tab) (a b c d : Int) : Tab × Int := if t.canSpawn a b c d then (⟨t.l ++ [⟨t.next, a, b, c, d, 1000⟩], t.next + 1⟩, t.next) else (t, 0)

set_option maxRecDepth 100000 in
theorem Spawn_T (v u : Nat) (t : Tab) (a b c d : Int) (ht : t.Ok) (hn : 0 ≤ t.next) : callT Tryz.prog 160 [.at 1000 v 0, i64v a, i64v b, i64v c, i64v d] ⟨[], tabH v u t⟩ (fun r h => ∃ u', r = i64v (t.spawn a b c d).2 ∧ h = tabH v u' (t.spawn a b c d).1) := by
  have hl := ht.len
  refine callT_of_body [0, 1, 2, 3, 4, 10, 11, 44] [1000, 1001] Tryz.func160 rfl (by decide) (by kernel_rfl) rfl ?_
  by_cases h0 : (64 : Int) ≤ t.l.length
  · have h0' : ¬ t.l.length < 64 := by omega
    simp [h0, i64v, Tab.spawn, Tab.canSpawn, h0']
  have h0' : t.l.length < 64 := by omega
  by_cases h1 : mayF 0 a = false
  · simp [h0, i64v]
    refine callT_eq [] (May_T 0 a) ?_
    simp [i64v, h1, Tab.spawn, Tab.canSpawn]
  rw [Bool.not_eq_false] at h1
  by_cases h2 : mayF 1 b = false
  · simp [h0, i64v]
    refine callT_eq [] (May_T 0 a) ?_
    simp [i64v, h1]
    refine callT_eq [] (May_T 1 b) ?_
    simp [i64v, h2, Tab.spawn, Tab.canSpawn]
  rw [Bool.not_eq_false] at h2
  by_cases h3 : mayF 2 c = false
  · simp [h0, i64v]
    refine callT_eq [] (May_T 0 a) ?_
    simp [i64v, h1]
    refine callT_eq [] (May_T 1 b) ?_
    simp [i64v, h2]
    refine callT_eq [] (May_T 2 c) ?_
    simp [i64v, h3, Tab.spawn, Tab.canSpawn]
  rw [Bool.not_eq_false] at h3
  simp [h0, i64v]
  refine callT_eq [] (May_T 0 a) ?_
  simp [i64v, h1]
  refine callT_eq [] (May_T 1 b) ?_
  simp [i64v, h2]
  refine callT_eq [] (May_T 2 c) ?_
  simp [i64v, h3]
  refine callT_eq [] (May_T 3 d) ?_
  by_cases h4 : mayF 3 d = false
  · simp [i64v, h4, Tab.spawn, Tab.canSpawn]
  rw [Bool.not_eq_false] at h4
  by_cases h5 : 1099511627776 ≤ t.next
  · have h5' : ¬ t.next < 1099511627776 := by omega
    simp [i64v, h4, h5, Tab.spawn, Tab.canSpawn, h5']
  have h5' : t.next < 1099511627776 := by omega
  simp [i64v, h4, h5]
  intro v1
  refine draw_one 7 62 (by kernel_rfl) (by kernel_rfl) (by kernel_rfl) (by kernel_rfl) (by kernel_rfl) ?_
  simp
  have e1 : IntKind.i64.wrap (t.next + 1) = t.next + 1 := i64_id (by omega) (by omega)
  simp [e1, h1, h2, h3, h4, h5', h0', Tab.spawn, Tab.canSpawn, i64v, Un.cells]
  exact ⟨by omega, by omega, List.take_of_length_le (by simp)⟩
end Go.Proofs.YtnkdkajllmopaaaGreat.TL

namespace Go.Proofs.YtnkdkajllmopaaaGreat.TL
open Go
set_option linter.unusedVariables false
set_option linter.unusedSimpArgs false

/-- The nil slice as one that never changes. -/
theorem VLx.nil' {h : Heap} {S : TV → Heap → Prop} (k : S (.isl [] 0) h) : VLx (.v (.slice none 0 0)) h S := fun e E w v H hv => by
  simp only [RV] at hv
  exact ⟨_, h, E, k, Env.Le.refl E, H, by simp only [RV]; exact .inl ⟨trivial, trivial, hv⟩⟩

def Un.setF (u : Un) (f x : Int) : Un := if f = 2 then { u with c := x } else if f = 3 then { u with d := x } else { u with e := x }
def Tab.set (t : Tab) (id f x : Int) : Tab × Bool :=
  if found t.l id = false ∨ f < 2 ∨ 4 < f then (t, false) else if f = 4 ∧ x < 1 then (t.kill id, true) else if mayF f x = false then (t, false)
  else (⟨t.l.modify (pos t.l id) fun w => w.setF f x, t.next⟩, true)

theorem row_put {l : List Un} {p : Nat} (hp : p < l.length) (y : TV) (j : Nat) (g : Un → Un) (hj : j < 6) (hw : (g l[p]).cells = List.take j l[p].cells ++ y :: List.drop (j + 1) l[p].cells) :
    List.take (p * 6 + j) (rowU l) ++ y :: List.drop (p * 6 + j + 1) (rowU l) = rowU (l.modify p g) := by
  obtain ⟨A, x, B, rfl, rfl⟩ : ∃ A x B, l = A ++ x :: B ∧ p = A.length := ⟨l.take p, l[p], l.drop (p + 1), by rw [← List.drop_eq_getElem_cons hp, List.take_append_drop], by simp; omega⟩
  have hxl : x.cells.length = 6 := rfl
  have hx : (A ++ x :: B)[A.length] = x := by simp
  rw [hx] at hw
  have e1 : (A ++ x :: B).modify A.length g = A ++ g x :: B := by simp [List.modify_eq_take_cons_drop]
  rw [e1]
  simp only [rowU_append, rowU_cons, hw]
  have e2 : A.length * 6 = (rowU A).length := by simp
  rw [e2, Nat.add_assoc]
  simp only [List.take_length_add_append, List.drop_length_add_append, List.append_assoc]
  congr 1
  rw [List.take_append_of_le_length (by omega), List.drop_append_of_le_length (by omega)]
  simp

set_option maxRecDepth 100000 in
theorem Set_T (v u : Nat) (t : Tab) (id f x : Int) (ht : t.Ok) : callT Tryz.prog 163 [.at 1000 v 0, i64v id, i64v f, i64v x] ⟨[], tabH v u t⟩ (fun r h => ∃ u', r = .v (.bool (t.set id f x).2) ∧ h = tabH v u' (t.set id f x).1) := by
  refine callT_of_body [0, 1, 2, 3, 8, 9, 10, 17, 28, 38] [1000, 1001] Tryz.func163 rfl (by decide) (by kernel_rfl) rfl ?_
  simp
  refine callT_eq [(1000, 1000), (1001, 1001)] (Find_T v u t id ht) ?_
  by_cases hf : found t.l id = false
  · simp [i64v, hf, Tab.set]
  rw [Bool.not_eq_false] at hf
  by_cases h1 : f < 2
  · simp [i64v, hf, h1, Tab.set]
  by_cases h2 : 4 < f
  · simp [i64v, hf, h1, h2, Tab.set]
  have hp := found_lt hf
  by_cases h3 : f = 4 ∧ x < 1
  · obtain ⟨rfl, h3⟩ := h3
    simp [i64v, hf, h3]
    refine callT_ex [(1000, 1000), (1001, 1001)] (Kill_T v u t id ht) ?_
    simp [i64v, hf, h3, Tab.set]
  by_cases h4 : f = 4
  · subst h4
    have h3' : ¬ x < 1 := by omega
    simp [i64v, hf, h3']
    refine callT_eq [] (May_T 4 x) ?_
    by_cases h5 : mayF 4 x = false
    · simp [i64v, hf, h3', h5, Tab.set]
    rw [Bool.not_eq_false] at h5
    simp [i64v, hf, h3', h5, Tab.set, hp, rowU_at hp]
    exact ⟨by omega, row_put hp _ 5 (fun w => w.setF 4 x) (by decide) (by simp [Un.setF, Un.cells, i64v])⟩
  · have h6 : f = 2 ∨ f = 3 := by omega
    rcases h6 with rfl | rfl
    · simp [i64v, hf]
      refine callT_eq [] (May_T 2 x) ?_
      by_cases h5 : mayF 2 x = false
      · simp [i64v, hf, h5, Tab.set]
      rw [Bool.not_eq_false] at h5
      simp [i64v, hf, h5, Tab.set, hp, rowU_at hp]
      exact ⟨by omega, row_put hp _ 3 (fun w => w.setF 2 x) (by decide) (by simp [Un.setF, Un.cells, i64v])⟩
    · simp [i64v, hf]
      refine callT_eq [] (May_T 3 x) ?_
      by_cases h5 : mayF 3 x = false
      · simp [i64v, hf, h5, Tab.set]
      rw [Bool.not_eq_false] at h5
      simp [i64v, hf, h5, Tab.set, hp, rowU_at hp]
      exact ⟨by omega, row_put hp _ 4 (fun w => w.setF 3 x) (by decide) (by simp [Un.setF, Un.cells, i64v])⟩

/-- slices.Clone, of any row, read for good. -/
theorem CloneR_T (u : Nat) (l : List Un) (hl : l.length ≤ 1000000) :
    callT Tryz.prog 166 [.sl 1000 u 0 l.length] ⟨[], [(1000, u, ⟨6, rowU l⟩)]⟩ (fun r h => r = .isl (rowU l) l.length ∧ h = [(1000, u, ⟨6, rowU l⟩)]) := by
  refine callT.mono (K := fun r h => (l = [] ∧ r = .v (.slice none 0 0) ∧ h = [(1000, u, ⟨6, rowU l⟩)]) ∨ ∃ u', r = .sl 5 u' 0 l.length ∧ h = [(1000, u, ⟨6, rowU l⟩), (5, u', ⟨6, rowU l⟩)]) ?_ fun r h hh => ?_
  · refine callT_of_body [0, 2, 4] [1000, 5] Tryz.func166 rfl (by decide) (by kernel_rfl) rfl ?_
    have e1 : List.take (l.length * 6) (rowU l) = rowU l := List.take_of_length_le (by simp)
    simp [e1]
    omega
  · rcases hh with ⟨rfl, rfl, rfl⟩ | ⟨u', rfl, rfl⟩
    · exact VLx.nil' ⟨rfl, rfl⟩
    · refine VLx.frz 5 rfl (VLx.done ?_)
      have e1 : List.take (l.length * 6) (rowU l) = rowU l := List.take_of_length_le (by simp)
      simp [e1]

theorem New1_T : callT Tryz.prog 57 [] ⟨[], []⟩ (fun r h => ∃ v u, r = .at 2 v 0 ∧ h = [(2, v, ⟨0, [.sl 1001 u 0 0, i64v 1]⟩), (1001, u, ⟨6, []⟩)]) := by
  refine callT.mono New_T fun r h hh => ?_
  obtain ⟨v, rfl, rfl⟩ := hh
  exact VLx.nilCell 2 0 1001 6 (by decide) (by decide) rfl rfl fun u => VLx.done ⟨v, u, rfl, by simp [setH, List.set]⟩
end Go.Proofs.YtnkdkajllmopaaaGreat.TL

namespace Go.Proofs.YtnkdkajllmopaaaGreat.TL
open Go
set_option linter.unusedVariables false
set_option linter.unusedSimpArgs false

theorem callT_ex2 {P : Program} {f : Nat} {args0 args : List TV} {s : TS} {h0 : Heap} {H1 : Nat → Nat → Heap} {R : Nat → Nat → TV} {K : TV → Heap → Prop} (τ : List (Nat × Nat)) (hc : callT P f args0 ⟨[], h0⟩ (fun r h => ∃ u v, r = R u v ∧ h = H1 u v))
    (h : okTau τ = true ∧ args = renL (mapId τ) args0 ∧ okL (fun b => (mapId τ b).isSome = true) args0 ∧ (∀ p ∈ h0, okB (fun b => (mapId τ b).isSome = true) p.2.2 ∧ ∃ j, mapId τ p.1 = some j ∧ getH s.h j = some (p.2.1, renB (mapId τ) p.2.2)) ∧
      ∀ u v, okT (fun _ => True) (R u v) ∧ (∀ p ∈ H1 u v, (mapId τ p.1).isSome = true ∧ okB (fun _ => True) p.2.2) ∧ K (renT (mapId τ) (R u v)) (applyH (mapId τ) (H1 u v) τ s.h)) : callT P f args s K := by
  obtain ⟨h1, h2, h3, h4, h5⟩ := h
  exact callT_use τ hc h1 h2 h3 h4 fun r h ⟨u, v, e1, e2⟩ => by subst e1 e2; exact h5 u v

theorem ok0 : Tab.Ok ⟨[], 1⟩ := ⟨fun i j h hj => by simp at hj, by simp⟩
theorem ok1 (n : Int) (u : Un) : Tab.Ok ⟨[u], n⟩ := ⟨fun i j h hj => by simp at hj; omega, by simp⟩

theorem asc_iff {l : List Un} : Asc l ↔ l.Pairwise fun a b => a.id < b.id := by
  rw [List.pairwise_iff_getElem]
  exact ⟨fun h i j hi hj hij => h i j hij hj, fun h i j hij hj => h i j (by omega) hj hij⟩
structure Un.fok (w : Un) : Prop where
  a : mayF 0 w.a = true
  b : mayF 1 w.b = true
  c : mayF 2 w.c = true
  d : mayF 3 w.d = true
  e : mayF 4 w.e = true
structure Tab.WF (t : Tab) : Prop where
  asc : t.l.Pairwise fun a b => a.id < b.id
  lt : ∀ w ∈ t.l, 1 ≤ w.id ∧ w.id < t.next
  len : t.l.length ≤ 64
  nx : 1 ≤ t.next ∧ t.next ≤ 1099511627776
  fo : ∀ w ∈ t.l, w.fok
theorem Tab.WF.ok {t : Tab} (h : t.WF) : t.Ok := ⟨asc_iff.2 h.asc, Nat.le_trans h.len (by decide)⟩
theorem wf0 : Tab.WF ⟨[], 1⟩ := ⟨List.Pairwise.nil, fun w h => (by cases h), by decide, by decide, fun w h => (by cases h)⟩
theorem Tab.WF.kill {t : Tab} (h : t.WF) (id : Int) : (t.kill id).WF := by
  unfold Tab.kill
  split
  · have hs := List.eraseIdx_sublist t.l (pos t.l id)
    exact ⟨h.asc.sublist hs, fun w hw => h.lt w (hs.subset hw), Nat.le_trans hs.length_le h.len, h.nx, fun w hw => h.fo w (hs.subset hw)⟩
  · exact h
theorem Tab.kill_next (t : Tab) (id : Int) : (t.kill id).next = t.next := by unfold Tab.kill; split <;> rfl
theorem Tab.WF.spawn {t : Tab} (h : t.WF) (a b c d : Int) : (t.spawn a b c d).1.WF := by
  unfold Tab.spawn
  split
  · rename_i hc
    unfold Tab.canSpawn at hc
    simp only [Bool.and_eq_true, decide_eq_true_eq] at hc
    obtain ⟨h0, h1, h2, h3, h4, h5⟩ := hc
    refine ⟨?_, fun w hw => ?_, by simp; omega, ⟨by have := h.nx; simp only; omega, by simp only; omega⟩, fun w hw => ?_⟩
    · rw [List.pairwise_append]
      exact ⟨h.asc, by simp, fun x hx y hy => by simp at hy; subst hy; exact (h.lt x hx).2⟩
    · rcases List.mem_append.1 hw with hw | hw
      · have := h.lt w hw; simp only; omega
      · simp at hw; subst hw; have := h.nx; simp only; omega
    · rcases List.mem_append.1 hw with hw | hw
      · exact h.fo w hw
      · simp at hw; subst hw; exact ⟨h1, h2, h3, h4, (by show mayF 4 1000 = true; decide)⟩
  · exact h
theorem Tab.spawn_num (t : Tab) (a b c d : Int) (hn : 1 ≤ t.next) : ((t.spawn a b c d).2 = 0 ∧ (t.spawn a b c d).1 = t ∧ t.canSpawn a b c d = false) ∨ ((t.spawn a b c d).2 = t.next ∧ (t.spawn a b c d).1.next = t.next + 1 ∧ t.canSpawn a b c d = true) := by
  unfold Tab.spawn
  split
  · rename_i h; exact .inr ⟨rfl, rfl, h⟩
  · rename_i h; exact .inl ⟨rfl, rfl, by simpa using h⟩

structure Act where
  kind : Int
  n : Int
  field : Int
  a : Int
  b : Int
  x : Int
  y : Int
def Act.cells (o : Act) : List TV := [i64v o.kind, i64v o.n, i64v o.field, i64v o.a, i64v o.b, i64v o.x, i64v o.y]
def rowA (l : List Act) : List TV := (l.map Act.cells).flatten
@[simp] theorem rowA_nil : rowA [] = [] := rfl
@[simp] theorem rowA_cons (o : Act) (l : List Act) : rowA (o :: l) = o.cells ++ rowA l := rfl
@[simp] theorem rowA_length : ∀ l : List Act, (rowA l).length = l.length * 7
  | [] => rfl
  | o :: l => by simp [rowA_length l, Act.cells]; omega
theorem rowA_drop : ∀ (n : Nat) (l : List Act), (rowA l).drop (n * 7) = rowA (l.drop n)
  | 0, l => by simp
  | n + 1, [] => by simp
  | n + 1, o :: l => by
    have := rowA_drop n l
    rw [show (n + 1) * 7 = 7 + n * 7 by omega, ← List.drop_drop]
    simpa [Act.cells] using this
theorem rowA_at {l : List Act} {k : Nat} (h : k < l.length) : List.drop (k * 7) (rowA l) = i64v l[k].kind :: i64v l[k].n :: i64v l[k].field :: i64v l[k].a :: i64v l[k].b :: i64v l[k].x :: i64v l[k].y :: rowA (l.drop (k + 1)) := by
  rw [rowA_drop, List.drop_eq_getElem_cons h]; rfl
@[simp] theorem rowA_CloL (l : List Act) : CloL (rowA l) := by
  induction l with
  | nil => simp
  | cons o l ih => simp [Act.cells, i64v, ih]

end Go.Proofs.YtnkdkajllmopaaaGreat.TL

namespace Go.Proofs.YtnkdkajllmopaaaGreat.TL
open Go
set_option linter.unusedVariables false
set_option linter.unusedSimpArgs false

def Un.flds (w : Un) : List Int := [w.a, w.b, w.c, w.d, w.e]
/-- The bytes of units behind one of number last. -/
def ubs : Int → List Un → List UInt8
  | _, [] => []
  | last, w :: l => nb (w.id - last).toNat ++ (nbs (w.flds.map zig) ++ ubs w.id l)
def lastId : Int → List Un → Int
  | z, [] => z
  | _, w :: l => lastId w.id l
def tabB (t : Tab) : List UInt8 := nb t.next.toNat ++ (nb t.l.length ++ ubs 0 t.l)

theorem ubs_snoc : ∀ (l : List Un) (z : Int) (w : Un), ubs z (l ++ [w]) = ubs z l ++ (nb (w.id - lastId z l).toNat ++ nbs (w.flds.map zig))
  | [], z, w => by simp [ubs, lastId]
  | a :: l, z, w => by simp [ubs, lastId, ubs_snoc l a.id w]
theorem lastId_snoc : ∀ (l : List Un) (z : Int) (w : Un), lastId z (l ++ [w]) = w.id
  | [], z, w => rfl
  | a :: l, z, w => by simp [lastId, lastId_snoc l a.id w]
theorem fok_rng {w : Un} (h : w.fok) : ∀ x ∈ w.flds, -1000 ≤ x ∧ x ≤ 1000 := fun x hx => by
  obtain ⟨h1, h2, h3, h4, h5⟩ := h
  simp [mayF] at h1 h2 h3 h4 h5
  simp only [Un.flds, List.mem_cons, List.not_mem_nil, or_false] at hx
  rcases hx with rfl | rfl | rfl | rfl | rfl <;> omega
theorem last_lt {t : Tab} (h : t.WF) (k : Nat) : 0 ≤ lastId 0 (t.l.take k) ∧ lastId 0 (t.l.take k) < t.next ∧ ∀ (hk : k < t.l.length), lastId 0 (t.l.take k) < t.l[k].id := by
  induction k with
  | zero => exact ⟨by simp [lastId], by have := h.nx; simp [lastId]; omega, fun hk => by have := (h.lt _ (List.getElem_mem hk)).1; simp [lastId]; omega⟩
  | succ k ih =>
    by_cases hk : k < t.l.length
    · rw [List.take_succ_eq_append_getElem hk, lastId_snoc]
      have := h.lt _ (List.getElem_mem hk)
      exact ⟨by omega, by omega, fun hk1 => List.pairwise_iff_getElem.1 h.asc k (k + 1) hk hk1 (by omega)⟩
    · rw [List.take_of_length_le (by omega)]
      rw [List.take_of_length_le (by omega)] at ih
      exact ⟨ih.1, ih.2.1, fun hk1 => by omega⟩
theorem ubs_len {t : Tab} (h : t.WF) (k : Nat) : (ubs 0 (t.l.take k)).length ≤ 60 * k := by
  induction k with
  | zero => simp [ubs]
  | succ k ih =>
    by_cases hk : k < t.l.length
    · rw [List.take_succ_eq_append_getElem hk, ubs_snoc]
      have h1 := h.lt _ (List.getElem_mem hk)
      have h2 := last_lt h k
      have hn := h.nx
      have e1 := nb_len10 (n := (t.l[k].id - lastId 0 (t.l.take k)).toNat) (by omega)
      have e2 := nbs_len (l := t.l[k].flds.map zig) fun n hn => by
        obtain ⟨x, hx, rfl⟩ := List.mem_map.1 hn
        have := fok_rng (h.fo _ (List.getElem_mem hk)) x hx
        exact zig_lt (by omega) (by omega)
      simp [Un.flds] at e2
      simp only [List.length_append, Un.flds, List.map_cons, List.map_nil]
      omega
    · rw [List.take_of_length_le (by omega)]
      rw [List.take_of_length_le (by omega)] at ih
      omega

set_option maxHeartbeats 1000000 in
set_option maxRecDepth 100000 in
theorem Text8_T (v u : Nat) (t : Tab) (ht : t.WF) : callT Tryz.prog 75 [.at 1000 v 0] ⟨[], tabH v u t⟩ (fun r h => r = .v (.string (bs (tabB t))) ∧ h = tabH v u t) := by
  have hnx := ht.nx
  have hlen := ht.len
  refine callT_of_body [0, 2, 3, 4, 6, 24, 25, 26, 27] [1000, 1001] Tryz.func75 rfl (by decide) (by kernel_rfl) rfl ?_
  simp
  intro v3
  refine draw_g [0, 1, 2, 3, 4, 5, 7, 8, 9, 10, 11, 12, 6] 13 [(6, [0, 1, 2, 3, 4, 5])] (by kernel_rfl) (by kernel_rfl) (by kernel_rfl) ?_
  have e1 : IntKind.u64.wrap t.next = t.next := u64_id (by omega) (by omega)
  have hmx : max t.next 0 = t.next := by omega
  simp [i64v, e1]
  have hc := OutNum_T v3 0 [] [t.next.toNat] (by simp; omega) (by simp)
  refine callT.pre (fn_of hc) (CLx.nilCell 3 0 1002 1 (by decide) (by decide) rfl rfl fun v1 => CLx.done ?_)
  simp
  have hc1 := OutNum_T v3 v1 [] [t.next.toNat] (by simp; omega) (by simp)
  refine callT_ex [(1000, 3), (1001, 1002)] hc1 ?_
  simp [u64c, hmx]
  intro u1
  have h10 := nb_len10 (n := t.next.toNat) (by omega)
  have h10l := nb_len10 (n := t.l.length) (by omega)
  refine callT_ex [(1000, 3), (1001, 1002)] (OutCount_T v3 u1 (nb t.next.toNat) [(t.l.length : Int)] (by simp; omega) (by simp; omega)) ?_
  simp [i64c]
  intro u2
  refine loopT_of (Nat × Nat) (fun x => x.1 ≤ t.l.length) (fun x => ⟨[(3, .at 3 v3 0), (4, i64v (lastId 0 (t.l.take x.1))), (24, .sl 1001 u 0 t.l.length), (25, .v (.int .i64 t.l.length)), (26, .v (.int .i64 x.1))], tabH v u t ++ [(3, v3, ⟨0, [.sl 1002 x.2 0 (nb t.next.toNat ++ (nb t.l.length ++ ubs 0 (t.l.take x.1))).length]⟩), (1002, x.2, ⟨1, (nb t.next.toNat ++ (nb t.l.length ++ ubs 0 (t.l.take x.1))).map bv⟩)]⟩) (fun x => t.l.length - x.1) (0, u2) (by simp) (by simp [i64v, lastId]) (by simp [i64v, ubs]) ?_
  rintro ⟨k, u3⟩ hk
  simp only at hk ⊢
  by_cases h1 : k < t.l.length
  · have hul := ubs_len ht k
    generalize hw1 : nb t.next.toNat ++ (nb t.l.length ++ ubs 0 (t.l.take k)) = w1
    have hw1l : w1.length ≤ 10000 := by rw [← hw1]; simp only [List.length_append]; omega
    simp [h1, rowU_at h1, i64v]
    intro v6
    refine draw_pre (SLx.frz 6 rfl (SLx.done ?_))
    simp
    refine draw_g [0, 1, 2, 3, 4, 5, 7, 8, 6] 9 [(6, [0, 1, 2, 3, 4, 5])] (by kernel_rfl) (by kernel_rfl) (by kernel_rfl) ?_
    have hid := ht.lt _ (List.getElem_mem h1)
    have hlast := last_lt ht k
    have hl3 := hlast.2.2 h1
    have e2 : IntKind.i64.wrap (t.l[k].id - lastId 0 (t.l.take k)) = t.l[k].id - lastId 0 (t.l.take k) := i64_id (by omega) (by omega)
    have e3 : IntKind.u64.wrap (t.l[k].id - lastId 0 (t.l.take k)) = t.l[k].id - lastId 0 (t.l.take k) := u64_id (by omega) (by omega)
    have e4 : max (t.l[k].id - lastId 0 (t.l.take k)) 0 = t.l[k].id - lastId 0 (t.l.take k) := by omega
    have hk10 := nb_len10 (n := (t.l[k].id - lastId 0 (t.l.take k)).toNat) (by omega)
    have hfr := fok_rng (ht.fo _ (List.getElem_mem h1))
    simp [e2, e3]
    refine callT_ex [(1000, 3), (1001, 1002)] (OutNum_T v3 u3 w1 [(t.l[k].id - lastId 0 (t.l.take k)).toNat] (by simp; omega) (by simp; omega)) ?_
    simp [u64c, e4]
    intro u4
    refine callT_ex [(1000, 3), (1001, 1002)] (OutInt_T v3 u4 (w1 ++ nb (t.l[k].id - lastId 0 (t.l.take k)).toNat) t.l[k].flds (fun x hx => by have := hfr x hx; omega) (by simp [Un.flds]; omega)) ?_
    simp [i64c, Un.flds]
    intro u5
    have e5 : IntKind.i64.wrap ((k : Int) + 1) = ((k + 1 : Nat) : Int) := by rw [i64_id (by omega) (by omega)]; rfl
    have e6 : nb t.next.toNat ++ (nb t.l.length ++ ubs 0 (t.l.take (k + 1))) = w1 ++ (nb (t.l[k].id - lastId 0 (t.l.take k)).toNat ++ nbs (t.l[k].flds.map zig)) := by
      rw [List.take_succ_eq_append_getElem h1, ubs_snoc, ← hw1]; simp
    have e7 := congrArg (List.map bv) e6
    have e8 := congrArg List.length e6
    refine SLx.again (k + 1, u5) (by simp only; omega) (by simp only; omega) ?_ ?_
    · rw [List.take_succ_eq_append_getElem h1, lastId_snoc]
      simp [e5, i64v]
    · simp [Un.flds, i64v] at e7 e8 ⊢
      exact ⟨by omega, e7.symm⟩
  · have : k = t.l.length := by omega
    subst this
    simp [i64v]
    refine callT_eq [(1000, 3), (1001, 1002)] (OutText_T v3 u3 (tabB t)) ?_
    simp [tabB, i64v]
end Go.Proofs.YtnkdkajllmopaaaGreat.TL

namespace Go.Proofs.YtnkdkajllmopaaaGreat.TL
open Go
set_option linter.unusedVariables false
set_option linter.unusedSimpArgs false

def mayR (f x : Int) : Bool := if f < 2 then decide (0 ≤ x) && decide (x ≤ 255) else if f < 4 then decide (-1000 ≤ x) && decide (x ≤ 1000) else decide (1 ≤ x) && decide (x ≤ 1000)
theorem mayR_eq {f x : Int} (h : 0 ≤ f) : mayR f x = mayF f x := by
  unfold mayR mayF
  by_cases h1 : f < 2
  · rw [if_pos h1, if_pos (by omega : f = 0 ∨ f = 1)]
  · rw [if_neg h1, if_neg (by omega : ¬ (f = 0 ∨ f = 1))]
    by_cases h2 : f < 4
    · rw [if_pos h2, if_pos (by omega : f = 2 ∨ f = 3)]
    · rw [if_neg h2, if_neg (by omega : ¬ (f = 2 ∨ f = 3))]

abbrev rTab (t : Tab) : TV := .agg [.isl (rowU t.l) t.l.length, i64v t.next]
/-- Where a number stands; -1. -/
def findR (l : List Un) (id : Int) : Int := match l.findIdx? (fun u => decide (u.id = id)) with | some k => k | none => -1

theorem take6 (l : List Un) : List.take (l.length * 6) (rowU l) = rowU l := List.take_of_length_le (by simp)

end Go.Proofs.YtnkdkajllmopaaaGreat.TL

namespace Go.Proofs.YtnkdkajllmopaaaGreat.TL
open Go
set_option linter.unusedVariables false
set_option linter.unusedSimpArgs false

theorem pos_of {id : Int} : ∀ {l : List Un} (i : Nat) (hi : i < l.length), (l.Pairwise fun a b => a.id < b.id) → l[i].id = id → pos l id = i ∧ found l id = true := fun {l} i hi ha he => by
  have hp : pos l id = i := pos_eq (by omega) (fun k h hk => by
    have := List.pairwise_iff_getElem.1 ha k i h hi hk
    omega) (fun k h hk => by
    by_cases hki : k = i
    · subst hki; omega
    · have := List.pairwise_iff_getElem.1 ha i k hi h (by omega)
      omega)
  refine ⟨hp, ?_⟩
  unfold found
  rw [hp, List.getElem?_eq_getElem hi]
  simpa using he
theorem findR_eq {l : List Un} {id : Int} (ha : l.Pairwise fun a b => a.id < b.id) : findR l id = if found l id then (pos l id : Int) else -1 := by
  unfold findR
  cases h : l.findIdx? (fun u => decide (u.id = id)) with
  | some k =>
    rw [List.findIdx?_eq_some_iff_getElem] at h
    obtain ⟨hk, h1, _⟩ := h
    obtain ⟨e1, e2⟩ := pos_of k hk ha (by simpa using h1)
    rw [e2, e1]; rfl
  | none =>
    rw [List.findIdx?_eq_none_iff] at h
    have : found l id = false := by
      cases hf : found l id with
      | false => rfl
      | true =>
        have hp := found_lt hf
        unfold found at hf
        rw [List.getElem?_eq_getElem hp] at hf
        have := h _ (List.getElem_mem hp)
        simp at hf this
        exact absurd hf this
    rw [this]; rfl

theorem split_at {l : List Un} {i : Nat} (hi : i < l.length) : ∃ A x B, l = A ++ x :: B ∧ i = A.length := ⟨l.take i, l[i], l.drop (i + 1), by rw [← List.drop_eq_getElem_cons hi, List.take_append_drop], by simp; omega⟩

theorem row_put6 {l : List Un} {p : Nat} (hp : p < l.length) (g : Un → Un) : List.take (p * 6) (rowU l) ++ ((g l[p]).cells ++ List.drop (p * 6 + 6) (rowU l)) = rowU (l.modify p g) := by
  obtain ⟨A, x, B, rfl, rfl⟩ := split_at hp
  have hx : (A ++ x :: B)[A.length] = x := by simp
  have e1 : (A ++ x :: B).modify A.length g = A ++ g x :: B := by simp [List.modify_eq_take_cons_drop]
  rw [e1, hx, show A.length * 6 + 6 = (A.length + 1) * 6 by omega, rowU_take, rowU_drop]
  simp
theorem frz_tab {v n : Nat} {l : List Un} {x : Int} {y : TV} (hn : n = l.length) (hy : frzT 43 v ⟨6, rowU l⟩ y = y) : frzT 43 v ⟨6, rowU l⟩ (.tup [.agg [.sl 43 v 0 n, i64v x], y]) = .tup [rTab ⟨l, x⟩, y] := by
  subst hn
  simp [take6, hy, i64v]

end Go.Proofs.YtnkdkajllmopaaaGreat.TL

namespace Go.Proofs.YtnkdkajllmopaaaGreat.TL
open Go
set_option linter.unusedVariables false
set_option linter.unusedSimpArgs false

def Un.at5 (w : Un) (j : Nat) : Int := w.flds.getD j 0
theorem flds_take (w : Un) (j : Nat) (hj : j < 5) : (w.flds.map zig).take (j + 1) = (w.flds.map zig).take j ++ [zig (w.at5 j)] := by
  rw [List.take_succ_eq_append_getElem (by simpa [Un.flds] using hj)]
  congr 2
  simp [Un.at5, List.getD, show j < w.flds.length by simpa [Un.flds] using hj]

end Go.Proofs.YtnkdkajllmopaaaGreat.TL

namespace Go.Proofs.YtnkdkajllmopaaaGreat.TL
open Go
set_option linter.unusedVariables false
set_option linter.unusedSimpArgs false

theorem i64_and_le (a : Int) (m : Nat) (hm : m < 2 ^ 63) : 0 ≤ bits .and .i64 a (m : Int) ∧ bits .and .i64 a (m : Int) ≤ m := by
  have h1 : (BitVec.ofInt 64 a &&& BitVec.ofInt 64 (m : Int)).toNat ≤ m := by
    rw [BitVec.toNat_and, ofInt_nat, BitVec.toNat_ofNat, Nat.mod_eq_of_lt (by omega)]
    exact Nat.and_le_right
  have h2 : bits .and .i64 a (m : Int) = ((BitVec.ofInt 64 a &&& BitVec.ofInt 64 (m : Int)).toNat : Int) := by
    show IntKind.i64.wrap ((BitVec.ofInt 64 a &&& BitVec.ofInt 64 (m : Int)).toNat : Nat) = _
    exact i64_id (by omega) (by omega)
  rw [h2]
  omega

/-- Acts as they are handed over. -/
def Act.wf (o : Act) : Prop := (Lit.int .i64 o.kind).wf = true ∧ (Lit.int .i64 o.n).wf = true ∧ (Lit.int .i64 o.field).wf = true ∧ (Lit.int .i64 o.a).wf = true ∧ (Lit.int .i64 o.b).wf = true ∧ (Lit.int .i64 o.x).wf = true ∧ (Lit.int .i64 o.y).wf = true
theorem dec_acts {c : List TV} (h : ShV (.sl (.st [.int .i64, .int .i64, .int .i64, .int .i64, .int .i64, .int .i64, .int .i64])) c) : ∃ l : List Act, (∀ o ∈ l, o.wf) ∧ asT (.sl (.st [.int .i64, .int .i64, .int .i64, .int .i64, .int .i64, .int .i64, .int .i64])) c = .isl (rowA l) l.length := by
  simp only [ShV] at h
  obtain ⟨els, h1, h2, rfl⟩ := h
  obtain ⟨l, h3, rfl⟩ := els_map (g := Act.cells) (p := Act.wf) (els := els) fun x hx => by
    have := h1 x hx
    simp only [ShL, ShV] at this
    obtain ⟨_, _, rfl, ⟨n0, g0, rfl⟩, _, _, rfl, ⟨n1, g1, rfl⟩, _, _, rfl, ⟨n2, g2, rfl⟩, _, _, rfl, ⟨n3, g3, rfl⟩, _, _, rfl, ⟨n4, g4, rfl⟩, _, _, rfl, ⟨n5, g5, rfl⟩, _, _, rfl, ⟨n6, g6, rfl⟩, rfl⟩ := this
    exact ⟨⟨n0, n1, n2, n3, n4, n5, n6⟩, ⟨g0, g1, g2, g3, g4, g5, g6⟩, rfl⟩
  exact ⟨l, h3, by simp [asT, rowA]⟩
end Go.Proofs.YtnkdkajllmopaaaGreat.TL

namespace Go.Proofs.YtnkdkajllmopaaaGreat.TL
open Go
set_option linter.unusedVariables false
set_option linter.unusedSimpArgs false

/-- Which number a call speaks of. -/
def Act.id (t : Tab) (o : Act) : Int := if 0 < t.l.length ∧ o.kind < 4 then ((t.l[((bits .and .i64 o.n 255).tmod t.l.length).toNat]?).map Un.id).getD 0 else o.y
def Tab.does (t : Tab) (o : Act) : Tab :=
  if o.kind = 1 then (t.spawn o.a o.b o.x o.y).1 else if o.kind = 2 then t.kill (o.id t) else if o.kind = 3 ∨ o.kind = 5 then (t.set (o.id t) o.field o.x).1 else if o.kind = 4 then t.kill o.x else t

theorem setF_id (w : Un) (f x : Int) : (w.setF f x).id = w.id := by unfold Un.setF; split; rfl; split <;> rfl
theorem setF_fok {w : Un} (h : w.fok) {f x : Int} (h2 : 2 ≤ f) (h4 : f ≤ 4) (hm : mayF f x = true) : (w.setF f x).fok := by
  have hf : f = 2 ∨ f = 3 ∨ f = 4 := by omega
  rcases hf with rfl | rfl | rfl
  · exact ⟨h.a, h.b, hm, h.d, h.e⟩
  · exact ⟨h.a, h.b, h.c, hm, h.e⟩
  · exact ⟨h.a, h.b, h.c, h.d, hm⟩
theorem mem_modify {l : List Un} {p : Nat} {g : Un → Un} {w : Un} (h : w ∈ l.modify p g) : w ∈ l ∨ ∃ y ∈ l, w = g y := by
  obtain ⟨i, hi, rfl⟩ := List.getElem_of_mem h
  rw [List.getElem_modify]
  split
  · exact .inr ⟨_, List.getElem_mem _, rfl⟩
  · exact .inl (List.getElem_mem _)
theorem Tab.WF.set {t : Tab} (h : t.WF) (id f x : Int) : (t.set id f x).1.WF := by
  unfold Tab.set
  split
  · exact h
  rename_i hc
  split
  · exact h.kill id
  split
  · exact h
  rename_i hm
  rw [Bool.not_eq_false] at hm
  have hf : 2 ≤ f ∧ f ≤ 4 := by omega
  refine ⟨?_, fun w hw => ?_, by simpa using h.len, h.nx, fun w hw => ?_⟩
  · have ha := h.asc
    rw [List.pairwise_iff_getElem] at ha ⊢
    intro i j hi hj hij
    have e : ∀ (k : Nat) (hk : k < (t.l.modify (pos t.l id) fun w => w.setF f x).length), ((t.l.modify (pos t.l id) fun w => w.setF f x)[k]).id = (t.l[k]'(by simpa using hk)).id := fun k hk => by
      rw [List.getElem_modify]
      split
      · exact setF_id _ _ _
      · rfl
    show ((t.l.modify (pos t.l id) fun w => w.setF f x)[i]).id < ((t.l.modify (pos t.l id) fun w => w.setF f x)[j]).id
    rw [e i hi, e j hj]
    exact ha i j _ _ hij
  · rcases mem_modify hw with hw | ⟨y, hy, rfl⟩
    · exact h.lt w hw
    · rw [setF_id]; exact h.lt y hy
  · rcases mem_modify hw with hw | ⟨y, hy, rfl⟩
    · exact h.fo w hw
    · exact setF_fok (h.fo y hy) hf.1 hf.2 hm
theorem Tab.WF.does {t : Tab} (h : t.WF) (o : Act) : (t.does o).WF := by
  unfold Tab.does
  split
  · exact h.spawn _ _ _ _
  split
  · exact h.kill _
  split
  · exact h.set _ _ _
  split
  · exact h.kill _
  · exact h

end Go.Proofs.YtnkdkajllmopaaaGreat.TL

