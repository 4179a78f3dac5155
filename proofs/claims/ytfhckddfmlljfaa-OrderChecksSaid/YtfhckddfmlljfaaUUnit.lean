/- Units: what their functions do. -/
import Derived.Test.YtfhckddfmlljfaaTy
import Derived.Test.YtfhckddfmlljfaaTbits
namespace Go.Proofs.Ytfhckddfmlljfaa.TL
open Go
set_option linter.unusedVariables false
set_option linter.unusedSimpArgs false

structure Un where
  id : Int
  a : Int
  b : Int
  c : Int
  d : Int
  e : Int
def i64v (n : Int) : TV := .v (.int .i64 n)
def Un.cells (u : Un) : List TV := [i64v u.id, i64v u.a, i64v u.b, i64v u.c, i64v u.d, i64v u.e]
def rowU (l : List Un) : List TV := (l.map Un.cells).flatten
structure Tab where
  l : List Un
  next : Int
abbrev tabH (v u : Nat) (t : Tab) : Heap := [(1000, v, ⟨0, [.sl 1001 u 0 t.l.length, i64v t.next]⟩), (1001, u, ⟨6, rowU t.l⟩)]

@[simp] theorem rowU_nil : rowU [] = [] := rfl
@[simp] theorem rowU_cons (o : Un) (l : List Un) : rowU (o :: l) = o.cells ++ rowU l := rfl
@[simp] theorem rowU_append (l l' : List Un) : rowU (l ++ l') = rowU l ++ rowU l' := by simp [rowU]
@[simp] theorem rowU_length : ∀ l : List Un, (rowU l).length = l.length * 6
  | [] => rfl
  | o :: l => by simp [rowU_length l, Un.cells]; omega
theorem rowU_drop : ∀ (n : Nat) (l : List Un), (rowU l).drop (n * 6) = rowU (l.drop n)
  | 0, l => by simp
  | n + 1, [] => by simp
  | n + 1, o :: l => by
    have := rowU_drop n l
    rw [show (n + 1) * 6 = 6 + n * 6 by omega, ← List.drop_drop]
    simpa [Un.cells] using this
theorem rowU_take : ∀ (n : Nat) (l : List Un), (rowU l).take (n * 6) = rowU (l.take n)
  | 0, l => by simp
  | n + 1, [] => by simp
  | n + 1, o :: l => by
    have := rowU_take n l
    rw [show (n + 1) * 6 = n * 6 + 6 by omega]
    simpa [Un.cells] using this
theorem rowU_at {l : List Un} {k : Nat} (h : k < l.length) : List.drop (k * 6) (rowU l) = i64v l[k].id :: i64v l[k].a :: i64v l[k].b :: i64v l[k].c :: i64v l[k].d :: i64v l[k].e :: rowU (l.drop (k + 1)) := by
  rw [rowU_drop, List.drop_eq_getElem_cons h]; rfl
theorem rowU_clo (l : List Un) : CloL (rowU l) ∧ AllC (rowU l) := by
  induction l with
  | nil => simp
  | cons o l ih => simp [Un.cells, i64v, ih.1, ih.2]
@[simp] theorem rowU_CloL (l : List Un) : CloL (rowU l) := (rowU_clo l).1
@[simp] theorem rowU_AllC (l : List Un) : AllC (rowU l) := (rowU_clo l).2

def mayF (f x : Int) : Bool := if f = 0 ∨ f = 1 then decide (0 ≤ x) && decide (x ≤ 255) else if f = 2 ∨ f = 3 then decide (-1000 ≤ x) && decide (x ≤ 1000) else decide (1 ≤ x) && decide (x ≤ 1000)

set_option maxRecDepth 100000 in
theorem May_T (f x : Int) : callT Try.prog 49 [i64v f, i64v x] ⟨[], []⟩ (fun r h => r = .v (.bool (mayF f x)) ∧ h = []) := by
  refine callT_of_body [0, 1, 4, 5, 6, 15] [] Try.func49 rfl (by decide) (by kernel_rfl) rfl ?_
  by_cases h0 : f = 0
  · simp [i64v, h0, mayF]
  · by_cases h1 : f = 1
    · simp [i64v, h0, h1, mayF]
    · by_cases h2 : f = 2
      · simp [i64v, h0, h1, h2, mayF]
      · by_cases h3 : f = 3 <;> simp [i64v, h0, h1, h2, h3, mayF]

set_option maxRecDepth 100000 in
theorem New_T : callT Try.prog 13 [] ⟨[], []⟩ (fun r h => ∃ v, r = .at 2 v 0 ∧ h = [(2, v, ⟨0, [.v (.slice none 0 0), i64v 1]⟩)]) := by
  refine callT_of_body [0] [2] Try.func13 rfl (by decide) (by kernel_rfl) rfl ?_
  simp [i64v]

set_option maxRecDepth 100000 in
theorem Len_T (v u : Nat) (t : Tab) : callT Try.prog 16 [.at 1000 v 0] ⟨[], tabH v u t⟩ (fun r h => r = i64v t.l.length ∧ h = tabH v u t) := by
  refine callT_of_body [0, 2] [1000, 1001] Try.func16 rfl (by decide) (by kernel_rfl) rfl ?_
  simp [i64v]

set_option maxRecDepth 100000 in
theorem Next_T (v u : Nat) (t : Tab) : callT Try.prog 45 [.at 1000 v 0] ⟨[], tabH v u t⟩ (fun r h => r = i64v t.next ∧ h = tabH v u t) := by
  refine callT_of_body [0, 2] [1000, 1001] Try.func45 rfl (by decide) (by kernel_rfl) rfl ?_
  simp [i64v]

def Tab.nth (t : Tab) (n : Int) : Int := if n < 0 ∨ (t.l.length : Int) ≤ n then 0 else ((t.l[n.toNat]?).map Un.id).getD 0

set_option maxRecDepth 100000 in
theorem Nth_T (v u : Nat) (t : Tab) (n : Int) : callT Try.prog 15 [.at 1000 v 0, i64v n] ⟨[], tabH v u t⟩ (fun r h => r = i64v (t.nth n) ∧ h = tabH v u t) := by
  refine callT_of_body [0, 1, 4, 15] [1000, 1001] Try.func15 rfl (by decide) (by kernel_rfl) rfl ?_
  by_cases h0 : n < 0
  · simp [i64v, h0, Tab.nth]
  · by_cases h1 : (t.l.length : Int) ≤ n
    · simp [i64v, h0, h1, Tab.nth]
    · obtain ⟨k, rfl⟩ : ∃ k : Nat, n = k := ⟨n.toNat, by omega⟩
      have hk : k < t.l.length := by omega
      have h2 : ¬ t.l.length ≤ k := by omega
      simp [i64v, h2, hk, rowU_at hk, Tab.nth]
      exact ⟨fun h => by omega, fun h => by omega⟩

set_option maxRecDepth 100000 in
theorem Clone_T (u n : Nat) (cs : List TV) (hn : 0 < n) (hl : cs.length = n * 6) (hc : AllC cs) (hcl : CloL cs) (hb : n ≤ 1000000) :
    callT Try.prog 48 [.sl 1000 u 0 n] ⟨[], [(1000, u, ⟨6, cs⟩)]⟩ (fun r h => ∃ u', r = .sl 5 u' 0 n ∧ h = [(1000, u, ⟨6, cs⟩), (5, u', ⟨6, cs⟩)]) := by
  refine callT_of_body [0, 2, 4] [1000, 5] Try.func48 rfl (by decide) (by kernel_rfl) rfl ?_
  have hn0 : n ≠ 0 := by omega
  have e1 : List.take (n * 6) cs = cs := List.take_of_length_le (by omega)
  simp [e1, hl, hc, hn0]
  omega
end Go.Proofs.Ytfhckddfmlljfaa.TL
