/- Which code may be run: verify.Check, of any image. -/
import Derived.Test.YtnkdkajllmopaaaGreatUTyp
import Derived.Test.YtnkdkajllmopaaaGreatTF
import Derived.Test.YtnkdkajllmopaaaGreatUOrd
/- Which code may be run: the walk through a function. -/
/- Which code may be run: the whole image. -/
namespace Go.Proofs.YtnkdkajllmopaaaGreat.TL
open Go
set_option linter.unusedVariables false
set_option linter.unusedSimpArgs false

def hostA (n : Int) : Int := if n < 0 ∨ 7 ≤ n then -1 else ([3, 1, 2, 3, 0, 1, 0] : List Int)[n.toNat]?.getD 0
/-- What an instruction takes, and leaves. -/
def effV (I : List Fn) (x : Ins) : Int × Int :=
  if x.op = 1 ∨ x.op = 17 then (0, 1) else if x.op = 2 ∨ x.op = 18 ∨ x.op = 14 then (1, 0) else if x.op = 3 then (1, 2) else if x.op = 4 then (2, 2)
  else if x.op = 5 ∨ x.op = 6 ∨ x.op = 7 ∨ x.op = 8 ∨ x.op = 9 ∨ x.op = 10 ∨ x.op = 11 then (2, 1) else if x.op = 12 ∨ x.op = 19 ∨ x.op = 21 then (1, 1)
  else if x.op = 20 then (2, 0) else if x.op = 16 then (1, 0) else if x.op = 15 then ((I[x.arg.toNat]?.map Fn.args).getD 0, 1) else if x.op = 22 then (hostA x.arg, 1) else (0, 0)
def soundV (I : List Fn) (f : Fn) (x : Ins) : Bool :=
  if x.op = 13 ∨ x.op = 14 then decide (0 ≤ x.arg) && decide (x.arg < f.code.length)
  else if x.op = 15 then decide (0 ≤ x.arg) && decide (x.arg < I.length)
  else if x.op = 17 ∨ x.op = 18 then decide (0 ≤ x.arg) && decide (x.arg < f.locs)
  else if x.op = 22 then decide (0 ≤ hostA x.arg)
  else decide (1 ≤ x.op) && decide (x.op ≤ 22)
def nextV (x : Ins) (k : Int) : List Int := if x.op = 16 then [] else if x.op = 13 then [x.arg] else if x.op = 14 then [k + 1, x.arg] else [k + 1]

theorem op_cases (op : Int) : op = 1 ∨ op = 2 ∨ op = 3 ∨ op = 4 ∨ op = 5 ∨ op = 6 ∨ op = 7 ∨ op = 8 ∨ op = 9 ∨ op = 10 ∨ op = 11 ∨ op = 12 ∨ op = 13 ∨ op = 14 ∨ op = 15 ∨ op = 16 ∨ op = 17 ∨ op = 18 ∨ op = 19 ∨ op = 20 ∨ op = 21 ∨ op = 22 ∨ (op < 1 ∨ 22 < op) := by omega

set_option maxHeartbeats 2000000 in
set_option maxRecDepth 100000 in
theorem Eff_T (I : List Fn) (x : Ins) (hI : x.op = 15 → 0 ≤ x.arg ∧ x.arg < I.length) : callT Tryz.prog 97 [.agg [.isl (rowFn I) I.length], .agg x.cells] ⟨[], []⟩ (fun r h => r = .tup [i64v (effV I x).1, i64v (effV I x).2] ∧ h = []) := by
  refine callT_of_body [0, 1, 2, 3, 4, 5, 7, 8, 11, 15, 17, 19, 27, 31, 33, 35, 44] [] Tryz.func97 rfl (by decide) (by kernel_rfl) rfl ?_
  obtain ⟨op, a⟩ := x
  rcases op_cases op with h | h | h | h | h | h | h | h | h | h | h | h | h | h | h | h | h | h | h | h | h | h | h
  case inr.inr.inr.inr.inr.inr.inr.inr.inr.inr.inr.inr.inr.inr.inl =>
    subst h
    have hI' := hI rfl
    simp only at hI'
    obtain ⟨h0, h1⟩ := hI'
    have hk : a.toNat < I.length := by omega
    have hat := rowFn_at (I := I) (k := a.toNat) (List.getElem?_eq_getElem hk)
    simp only [i64v] at hat
    simp [Ins.cells, i64v, effV, h0, h1, hat, hk]
  case inr.inr.inr.inr.inr.inr.inr.inr.inr.inr.inr.inr.inr.inr.inr.inr.inr.inr.inr.inr.inr.inl =>
    subst h
    have hc : callT Tryz.prog 109 [i64v a] ⟨[], []⟩ (fun r h => r = i64v (hostA a) ∧ h = []) := HostArgs_T a
    simp only [i64v] at hc
    simp [Ins.cells, i64v, effV]
    intro v1 v2
    refine callT_eq [] hc ?_
    simp
  all_goals try (subst h; simp [Ins.cells, i64v, effV]; done)
  obtain ⟨n1, n2, n3, n4, n5, n6, n7, n8, n9, n10, n11, n12, n13, n14, n15, n16, n17, n18, n19, n20, n21, n22⟩ : ¬ op = 1 ∧ ¬ op = 2 ∧ ¬ op = 3 ∧ ¬ op = 4 ∧ ¬ op = 5 ∧ ¬ op = 6 ∧ ¬ op = 7 ∧ ¬ op = 8 ∧ ¬ op = 9 ∧ ¬ op = 10 ∧ ¬ op = 11 ∧ ¬ op = 12 ∧ ¬ op = 13 ∧ ¬ op = 14 ∧ ¬ op = 15 ∧ ¬ op = 16 ∧ ¬ op = 17 ∧ ¬ op = 18 ∧ ¬ op = 19 ∧ ¬ op = 20 ∧ ¬ op = 21 ∧ ¬ op = 22 := by omega
  simp [Ins.cells, i64v, effV, n1, n2, n3, n4, n5, n6, n7, n8, n9, n10, n11, n12, n13, n14, n15, n16, n17, n18, n19, n20, n21, n22]

set_option maxHeartbeats 2000000 in
set_option maxRecDepth 100000 in
theorem Sound_T (I : List Fn) (f : Fn) (x : Ins) : callT Tryz.prog 96 [.agg [.isl (rowFn I) I.length], .agg f.cells, .agg x.cells] ⟨[], []⟩ (fun r h => r = .v (.bool (soundV I f x)) ∧ h = []) := by
  refine callT_of_body [0, 1, 2, 3, 4, 5, 6, 8, 9, 23, 36, 49] [] Tryz.func96 rfl (by decide) (by kernel_rfl) rfl ?_
  obtain ⟨op, a⟩ := x
  rcases op_cases op with h | h | h | h | h | h | h | h | h | h | h | h | h | h | h | h | h | h | h | h | h | h | h
  case inr.inr.inr.inr.inr.inr.inr.inr.inr.inr.inr.inr.inr.inr.inr.inr.inr.inr.inr.inr.inr.inl =>
    subst h
    have hc : callT Tryz.prog 109 [i64v a] ⟨[], []⟩ (fun r h => r = i64v (hostA a) ∧ h = []) := HostArgs_T a
    simp only [i64v] at hc
    simp [Ins.cells, Fn.cells, i64v, soundV]
    intro v1 v2 v3
    refine callT_eq [] hc ?_
    simp
  all_goals try (subst h; by_cases h0 : 0 ≤ a <;> simp [Ins.cells, Fn.cells, i64v, soundV, h0]; done)
  obtain ⟨n1, n2, n3, n4, n5, n6, n7, n8, n9, n10, n11, n12, n13, n14, n15, n16, n17, n18, n19, n20, n21, n22⟩ : ¬ op = 1 ∧ ¬ op = 2 ∧ ¬ op = 3 ∧ ¬ op = 4 ∧ ¬ op = 5 ∧ ¬ op = 6 ∧ ¬ op = 7 ∧ ¬ op = 8 ∧ ¬ op = 9 ∧ ¬ op = 10 ∧ ¬ op = 11 ∧ ¬ op = 12 ∧ ¬ op = 13 ∧ ¬ op = 14 ∧ ¬ op = 15 ∧ ¬ op = 16 ∧ ¬ op = 17 ∧ ¬ op = 18 ∧ ¬ op = 19 ∧ ¬ op = 20 ∧ ¬ op = 21 ∧ ¬ op = 22 := by omega
  by_cases h1 : 1 ≤ op
  · simp [Ins.cells, Fn.cells, i64v, soundV, n1, n2, n3, n4, n5, n6, n7, n8, n9, n10, n11, n12, n13, n14, n15, n16, n17, n18, n19, n20, n21, n22, h1]
  · simp [Ins.cells, Fn.cells, i64v, soundV, n1, n2, n3, n4, n5, n6, n7, n8, n9, n10, n11, n12, n13, n14, n15, n16, n17, n18, n19, n20, n21, n22, h1]

set_option maxRecDepth 100000 in
theorem VNext_T (x : Ins) (k : Nat) (hk : k ≤ 1000) : callT Tryz.prog 98 [.agg x.cells, i64v k] ⟨[], []⟩ (fun r h => r = .isl ((nextV x k).map i64v) (nextV x k).length ∧ h = []) := by
  have e1 : IntKind.i64.wrap ((k : Int) + 1) = (k : Int) + 1 := i64_id (by omega) (by omega)
  obtain ⟨op, a⟩ := x
  by_cases h16 : op = 16
  · refine callT.mono (K := fun r h => r = .v (.slice none 0 0) ∧ h = []) ?_ fun r h hh => ?_
    · refine callT_of_body [0, 1, 2, 4, 6, 7, 9, 14] [] Tryz.func98 rfl (by decide) (by kernel_rfl) rfl ?_
      simp [Ins.cells, i64v, h16]
    · obtain ⟨rfl, rfl⟩ := hh
      exact VLx.nil' (by simp [nextV, h16])
  by_cases h13 : op = 13
  · refine callT.mono (K := fun r h => ∃ v, r = .sl 13 v 0 1 ∧ h = [(13, v, ⟨1, [i64v a]⟩)]) ?_ fun r h hh => ?_
    · refine callT_of_body [0, 1, 2, 4, 6, 7, 9, 14] [13] Tryz.func98 rfl (by decide) (by kernel_rfl) rfl ?_
      simp [Ins.cells, i64v, h13]
    · obtain ⟨v, rfl, rfl⟩ := hh
      exact VLx.frz 13 rfl (VLx.done (by simp [nextV, h13]))
  by_cases h14 : op = 14
  · refine callT.mono (K := fun r h => ∃ v, r = .sl 20 v 0 2 ∧ h = [(20, v, ⟨1, [i64v (k + 1), i64v a]⟩)]) ?_ fun r h hh => ?_
    · refine callT_of_body [0, 1, 2, 4, 6, 7, 9, 14] [20] Tryz.func98 rfl (by decide) (by kernel_rfl) rfl ?_
      simp [Ins.cells, i64v, h14, e1]
    · obtain ⟨v, rfl, rfl⟩ := hh
      exact VLx.frz 20 rfl (VLx.done (by simp [nextV, h14]))
  · refine callT.mono (K := fun r h => ∃ v, r = .sl 23 v 0 1 ∧ h = [(23, v, ⟨1, [i64v (k + 1)]⟩)]) ?_ fun r h hh => ?_
    · refine callT_of_body [0, 1, 2, 4, 6, 7, 9, 14] [23] Tryz.func98 rfl (by decide) (by kernel_rfl) rfl ?_
      simp [Ins.cells, i64v, h16, h13, h14, e1]
    · obtain ⟨v, rfl, rfl⟩ := hh
      exact VLx.frz 23 rfl (VLx.done (by simp [nextV, h16, h13, h14]))
end Go.Proofs.YtnkdkajllmopaaaGreat.TL

namespace Go.Proofs.YtnkdkajllmopaaaGreat.TL
open Go
set_option linter.unusedVariables false
set_option linter.unusedSimpArgs false

def dAt (D : List Int) (k : Int) : Int := D[k.toNat]?.getD 0
/-- What is reached newly. -/
def reachV (n : Int) (len : Nat) : List Int → List Int → List Int → Option (List Int × List Int)
  | [], D, T => some (D, T)
  | k :: l, D, T => if (len : Int) ≤ k ∨ (0 ≤ dAt D k ∧ dAt D k ≠ n) then none else if dAt D k < 0 then reachV n len l (D.set k.toNat n) (T ++ [k]) else reachV n len l D T
/-- One instruction. -/
def walkS (I : List Fn) (f : Fn) (k : Int) (D T : List Int) : Option (List Int × List Int) :=
  match f.code[k.toNat]? with
  | none => none
  | some x => if soundV I f x = false then none else
    if dAt D k < (effV I x).1 ∨ 64 < dAt D k - (effV I x).1 + (effV I x).2 ∨ (x.op = 16 ∧ dAt D k ≠ 1) then none else reachV (dAt D k - (effV I x).1 + (effV I x).2) f.code.length (nextV x k) D T
/-- All that is to do: the first place that may not be. -/
def walkF (I : List Fn) (f : Fn) : Nat → List Int → List Int → Int
  | 0, _, _ => -1
  | _ + 1, _, [] => -1
  | m + 1, D, k :: T => match walkS I f k D T with
    | none => k
    | some (D', T') => walkF I f m D' T'
def neg (D : List Int) : Nat := (D.filter fun d => decide (d < 0)).length
def mu (D T : List Int) : Nat := 2 * neg D + T.length
structure WkOk (len : Nat) (D T : List Int) : Prop where
  l : D.length = len
  d : ∀ d ∈ D, -1 ≤ d ∧ d ≤ 64
  t : ∀ k ∈ T, 0 ≤ k ∧ k < len

theorem neg_set : ∀ {D : List Int} {k : Nat} {n : Int}, 0 ≤ n → (h : k < D.length) → D[k] < 0 → neg (D.set k n) + 1 = neg D
  | d :: D, 0, n, h0, h, hd => by
    have hd' : d < 0 := by simpa using hd
    have hn : ¬ n < 0 := by omega
    simp [neg, List.filter_cons, hd', hn]
  | d :: D, k + 1, n, h0, h, hd => by
    have := neg_set (D := D) (k := k) h0 (by simpa using h) (by simpa using hd)
    simp only [neg] at this ⊢
    simp only [List.set_cons_succ, List.filter_cons]
    split <;> (try simp only [List.length_cons]) <;> omega

theorem WkOk.reach1 {len : Nat} {D T : List Int} {k n : Int} (h : WkOk len D T) (hk : 0 ≤ k) (hl : k < len) (h0 : 0 ≤ n) (h64 : n ≤ 64) : WkOk len (D.set k.toNat n) (T ++ [k]) :=
  ⟨by simp [h.l], fun d hd => by
    rcases List.mem_or_eq_of_mem_set hd with hd | rfl
    · exact h.d d hd
    · omega, fun x hx => by
    rcases List.mem_append.1 hx with hx | hx
    · exact h.t x hx
    · simp at hx; subst hx; exact ⟨hk, hl⟩⟩
theorem dAt_eq {D : List Int} {k : Int} (h : k.toNat < D.length) : dAt D k = D[k.toNat] := by simp [dAt, h]
theorem mu_reach1 {len : Nat} {D T : List Int} {k n : Int} (h : WkOk len D T) (hk : 0 ≤ k) (hl : k < len) (h0 : 0 ≤ n) (hn : dAt D k < 0) : mu (D.set k.toNat n) (T ++ [k]) + 1 = mu D T := by
  have hk' : k.toNat < D.length := by have := h.l; omega
  have := neg_set h0 hk' (by rw [← dAt_eq hk']; exact hn)
  simp only [mu, List.length_append, List.length_singleton]
  omega
theorem reachV_ok {n : Int} {len : Nat} (h0 : 0 ≤ n) (h64 : n ≤ 64) : ∀ (l : List Int) {D T D' T' : List Int}, (∀ k ∈ l, 0 ≤ k) → WkOk len D T → reachV n len l D T = some (D', T') → WkOk len D' T' ∧ mu D' T' ≤ mu D T
  | [], D, T, D', T', hl, h, e => by
    simp only [reachV, Option.some.injEq, Prod.mk.injEq] at e
    obtain ⟨rfl, rfl⟩ := e
    exact ⟨h, Nat.le_refl _⟩
  | k :: l, D, T, D', T', hl, h, e => by
    have hk := hl k (by simp)
    have hl' : ∀ k ∈ l, 0 ≤ k := fun x hx => hl x (by simp [hx])
    simp only [reachV] at e
    split at e
    · cases e
    · rename_i hc
      have hc' : k < len := by omega
      split at e
      · rename_i hd
        have h1 := mu_reach1 h hk hc' h0 hd
        obtain ⟨h2, h3⟩ := reachV_ok h0 h64 l hl' (h.reach1 hk hc' h0 h64) e
        exact ⟨h2, by omega⟩
      · exact reachV_ok h0 h64 l hl' h e
/-- Which arguments functions have. -/
def ArgsOk (I : List Fn) : Prop := ∀ g ∈ I, 0 ≤ g.args ∧ g.args ≤ 16
theorem effV_b {I : List Fn} (hI : ArgsOk I) {f : Fn} {x : Ins} (hs : soundV I f x = true) : 0 ≤ (effV I x).1 ∧ (effV I x).1 ≤ 16 ∧ 0 ≤ (effV I x).2 ∧ (effV I x).2 ≤ 2 := by
  unfold effV
  split
  · simp
  split
  · simp
  split
  · simp
  split
  · simp
  split
  · simp
  split
  · simp
  split
  · simp
  split
  · simp
  split
  · rename_i h15
    simp only [soundV, h15] at hs
    simp at hs
    have hk : x.arg.toNat < I.length := by omega
    have := hI _ (List.getElem_mem hk)
    simp [hk]
    omega
  split
  · rename_i h22
    have hs' : 0 ≤ hostA x.arg := by simpa [soundV, h22] using hs
    unfold hostA at hs' ⊢
    by_cases h7 : x.arg < 0 ∨ 7 ≤ x.arg
    · rw [if_pos h7] at hs'
      omega
    · rw [if_neg h7]
      have : x.arg = 0 ∨ x.arg = 1 ∨ x.arg = 2 ∨ x.arg = 3 ∨ x.arg = 4 ∨ x.arg = 5 ∨ x.arg = 6 := by omega
      rcases this with h | h | h | h | h | h | h <;> simp [h]
  · simp
theorem nextV_b {I : List Fn} {f : Fn} {x : Ins} {k : Int} (hk : 0 ≤ k) (hs : soundV I f x = true) : ∀ j ∈ nextV x k, 0 ≤ j := by
  intro j hj
  unfold nextV at hj
  split at hj
  · simp at hj
  split at hj
  · rename_i h
    simp [soundV, h] at hs
    simp at hj
    omega
  split at hj
  · rename_i h
    simp [soundV, h] at hs
    simp at hj
    omega
  · simp at hj
    omega
theorem nextV_len (x : Ins) (k : Int) : (nextV x k).length ≤ 2 := by
  unfold nextV
  split
  · simp
  split
  · simp
  split <;> simp
theorem walkS_ok {I : List Fn} (hI : ArgsOk I) {f : Fn} {k : Int} {D T D' T' : List Int} (hk : 0 ≤ k) (h : WkOk f.code.length D T) (e : walkS I f k D T = some (D', T')) : WkOk f.code.length D' T' ∧ mu D' T' ≤ mu D T := by
  unfold walkS at e
  split at e
  · cases e
  split at e
  · cases e
  rename_i x hx hs
  simp only [Bool.not_eq_false] at hs
  split at e
  · cases e
  · rename_i hc
    have hb := effV_b hI hs
    exact reachV_ok (by omega) (by omega) _ (nextV_b hk hs) h e
/-- More fuel does nothing. -/
theorem walkF_ge {I : List Fn} (hI : ArgsOk I) {f : Fn} : ∀ (m : Nat) {D T : List Int}, WkOk f.code.length D T → mu D T ≤ m → walkF I f (m + 1) D T = walkF I f m D T
  | 0, D, T, h, hm => by
    have : T = [] := by cases T with | nil => rfl | cons => simp [mu] at hm
    subst this
    simp [walkF]
  | m + 1, D, [], h, hm => by simp [walkF]
  | m + 1, D, k :: T, h, hm => by
    have hk := h.t k (by simp)
    have hw : WkOk f.code.length D T := ⟨h.l, h.d, fun x hx => h.t x (by simp [hx])⟩
    rw [walkF, walkF]
    cases e : walkS I f k D T with
    | none => rfl
    | some p =>
      obtain ⟨D', T'⟩ := p
      have h2 := walkS_ok hI hk.1 hw e
      simp only
      exact walkF_ge hI m h2.1 (by simp [mu] at hm h2 ⊢; omega)
theorem walkF_le {I : List Fn} (hI : ArgsOk I) {f : Fn} {D T : List Int} (h : WkOk f.code.length D T) {m k : Nat} (hm : mu D T ≤ m) : walkF I f (m + k) D T = walkF I f m D T := by
  induction k with
  | zero => rfl
  | succ k ih => rw [← Nat.add_assoc, walkF_ge hI _ h (by omega), ih]
theorem walkF_to {I : List Fn} (hI : ArgsOk I) {f : Fn} {D T : List Int} (h : WkOk f.code.length D T) {m : Nat} (hm : mu D T ≤ m) : walkF I f m D T = walkF I f (mu D T) D T := by
  have := walkF_le hI h (m := mu D T) (k := m - mu D T) (Nat.le_refl _)
  rw [← this]; congr 1; omega
/-- The walk of a function: the first place that may not be; -1: there is none. -/
def walkV (I : List Fn) (f : Fn) : Int := walkF I f (2 * f.code.length) ((List.replicate f.code.length (-1)).set 0 0) [0]
theorem walkV_eq {I : List Fn} (hI : ArgsOk I) {f : Fn} (h1 : 1 ≤ f.code.length) : WkOk f.code.length ((List.replicate f.code.length (-1)).set 0 0) [0] ∧ mu ((List.replicate f.code.length (-1)).set 0 0) [0] ≤ 2 * f.code.length ∧ walkV I f = walkF I f (mu ((List.replicate f.code.length (-1)).set 0 0) [0]) ((List.replicate f.code.length (-1)).set 0 0) [0] := by
  have hw0 : WkOk f.code.length (List.replicate f.code.length (-1)) [] := ⟨by simp, fun d hd => by have := List.eq_of_mem_replicate hd; omega, fun k hk => by simp at hk⟩
  have hd0 : dAt (List.replicate f.code.length (-1)) 0 < 0 := by
    rw [dAt_eq (by simp; omega)]
    simp
  have hw := hw0.reach1 (k := 0) (n := 0) (by omega) (by omega) (by omega) (by omega)
  have hm : mu ((List.replicate f.code.length (-1)).set 0 0) [0] + 1 = mu (List.replicate f.code.length (-1)) [] := mu_reach1 (k := 0) (n := 0) hw0 (by omega) (by omega) (by omega) hd0
  have hn : neg (List.replicate f.code.length (-1)) = f.code.length := by simp [neg]
  suffices hle : mu ((List.replicate f.code.length (-1)).set 0 0) [0] ≤ 2 * f.code.length from ⟨hw, hle, walkF_to hI hw hle⟩
  have h2 : mu (List.replicate f.code.length (-1)) [] = 2 * f.code.length := by simp only [mu, hn, List.length_nil]; omega
  exact Nat.le_of_lt (by rw [← h2, ← hm]; exact Nat.lt_succ_self _)

theorem i64m_at {D : List Int} {k : Int} (h0 : 0 ≤ k) (h : k < D.length) : (D.map i64v)[k.toNat]? = some (i64v (dAt D k)) := by
  have hk : k.toNat < D.length := by omega
  simp [dAt_eq hk, hk]
def fillD (n j : Nat) : List Int := List.replicate j (-1) ++ List.replicate (n - j) 0
theorem fillD_set {n j : Nat} (h : j < n) : (fillD n j).set j (-1) = fillD n (j + 1) := by
  have e : n - j = (n - (j + 1)) + 1 := by omega
  simp only [fillD]
  rw [e, List.replicate_succ, List.set_append_right _ _ (by simp), List.replicate_succ' (n := j)]
  simp
theorem fillD_len {n j : Nat} (h : j ≤ n) : (fillD n j).length = n := by simp [fillD]; omega
theorem fillD_all {n : Nat} : fillD n n = List.replicate n (-1) := by simp [fillD]
theorem set_over {D : List Int} {k : Nat} {x : Int} (h : k < D.length) : (D.set k x).map i64v = List.take k (D.map i64v) ++ i64v x :: List.drop (k + 1) (D.map i64v) := by
  rw [List.map_set, List.set_eq_take_append_cons_drop, if_pos (by simpa using h)]
abbrev wkH (v2 v3 vD vT : Nat) (I : List Fn) (f : Fn) (D C : List Int) : Heap := [(2, v2, ⟨0, [.isl (rowFn I) I.length]⟩), (3, v3, ⟨0, f.cells⟩), (19, vD, ⟨1, D.map i64v⟩), (31, vT, ⟨1, C.map i64v⟩)]

set_option maxHeartbeats 4000000 in
set_option maxRecDepth 100000 in
theorem Walk_0 (I : List Fn) (hI : ArgsOk I) (f : Fn) (h1 : 1 ≤ f.code.length) (h128 : f.code.length ≤ 128) : callT Tryz.prog 80 [.agg [.isl (rowFn I) I.length], .agg f.cells] ⟨[], []⟩ (fun r h => (walkV I f = -1 ∧ ∃ (v : Nat) (D : List Int), D.length = f.code.length ∧ r = .tup [.sl 19 v 0 D.length, i64v (-1)] ∧ h = [(19, v, ⟨1, D.map i64v⟩)]) ∨ ∃ (v : Nat) (D : List Int), r = .tup [.v (.slice none 0 0), i64v (walkV I f)] ∧ h = [(19, v, ⟨1, D.map i64v⟩)]) := by
  refine callT_of_body [0, 1, 2, 3, 4, 5, 6, 7, 8, 9, 10, 11, 12, 13, 15, 21, 22, 23, 34, 49, 86, 90, 91, 92, 93, 115, 121] [19] Tryz.func80 rfl (by decide) (by kernel_rfl) rfl ?_
  obtain ⟨hw, hm1, hV⟩ := walkV_eq hI h1
  rw [hV]
  clear hV
  obtain ⟨D0, hD0⟩ : ∃ D0, D0 = (List.replicate f.code.length (-1)).set 0 (0 : Int) := ⟨_, rfl⟩
  rw [← hD0] at hw hm1 ⊢
  have hm0 : mu D0 [0] ≤ 1000 := by omega
  generalize hWW : walkF I f (mu D0 [0]) D0 [0] = W
  simp [-List.reduceReplicate, Fn.cells, i64v]
  intro v2 v3
  refine ⟨by omega, fun v19 => ?_⟩
  refine loopT_of Nat (fun j => j ≤ f.code.length) (fun j => ⟨[(2, .at 2 v2 0), (3, .at 3 v3 0), (6, .sl 19 v19 0 f.code.length), (21, i64v f.code.length), (22, i64v j)], [(2, v2, ⟨0, [.isl (rowFn I) I.length]⟩), (3, v3, ⟨0, f.cells⟩), (19, v19, ⟨1, (fillD f.code.length j).map i64v⟩)]⟩) (fun j => f.code.length - j) 0 (by simp) (by simp [i64v]) (by simp [Fn.cells, i64v, fillD]) ?_
  intro j hj
  have hfl := fillD_len hj
  by_cases g : j < f.code.length
  · have g' : (j : Int) < f.code.length := by omega
    have ej : IntKind.i64.wrap ((j : Int) + 1) = ((j + 1 : Nat) : Int) := by rw [i64_id (by omega) (by omega)]; rfl
    have hs := set_over (D := fillD f.code.length j) (k := j) (x := -1) (by omega)
    rw [fillD_set g] at hs
    simp only [i64v] at hs
    simp [i64v, g, g', hfl]
    refine ⟨by omega, SLx.again (j + 1) (by omega) (by omega) (by simp [i64v, ej]) (by simp [i64v, Fn.cells, hs])⟩
  have hjn : j = f.code.length := by omega
  subst hjn
  have hs := set_over (D := fillD f.code.length f.code.length) (k := 0) (x := 0) (by omega)
  rw [fillD_all, ← hD0] at hs
  simp only [i64v] at hs
  have hlen : 0 < (f.code.length : Int) := by omega
  have hlen' : 0 < f.code.length := by omega
  have hlen1 : 1 ≤ f.code.length := by omega
  simp [i64v, Fn.cells, hlen, hlen', hlen1, hfl]
  intro v31
  refine loopT_of (Nat × List Int × List Int × Nat) (fun x => x.1 ≤ x.2.1.length ∧ mu x.2.2.1 (x.2.1.drop x.1) ≤ 1000 ∧ WkOk f.code.length x.2.2.1 (x.2.1.drop x.1) ∧ walkF I f (mu x.2.2.1 (x.2.1.drop x.1)) x.2.2.1 (x.2.1.drop x.1) = W)
    (fun x => ⟨[(2, .at 2 v2 0), (3, .at 3 v3 0), (6, .sl 19 v19 0 f.code.length), (8, .sl 31 x.2.2.2 x.1 (x.2.1.length - x.1))], wkH v2 v3 v19 x.2.2.2 I f x.2.2.1 x.2.1⟩) (fun x => mu x.2.2.1 (x.2.1.drop x.1)) (0, [0], D0, v31) ⟨by simp, by simpa using hm0, hw, by simpa using hWW⟩ (by simp [i64v]) (by simp [i64v, Fn.cells, fillD_all, hs]) ?_
  rintro ⟨o, C, D, vT⟩ ⟨ho, hM, hW, hF⟩
  simp only at ho hM hW hF ⊢
  cases hT : C.drop o with
  | nil =>
    have hoC : o = C.length := by have := congrArg List.length hT; simp at this; omega
    subst hoC
    have hm : walkF I f (mu D []) D [] = -1 := by cases mu D [] <;> simp [walkF]
    have hW1 : W = -1 := by rw [← hF, List.drop_length, hm]
    simp [i64v, Fn.cells, hW1]
    exact ⟨v19, D, hW.l, ⟨rfl, hW.l.symm⟩, rfl, rfl⟩
  | cons k T =>
    have hk := hW.t k (by rw [hT]; simp)
    obtain ⟨kn, rfl⟩ := Int.eq_ofNat_of_zero_le hk.1
    have hoC : o < C.length := by have := congrArg List.length hT; simp at this; omega
    have hdc := List.drop_eq_getElem_cons hoC
    rw [hT, List.cons.injEq] at hdc
    have hCk : C[o] = kn := hdc.1.symm
    have hCT : C.drop (o + 1) = T := hdc.2.symm
    have hkl : kn < f.code.length := by omega
    have hkl' : (kn : Int) < f.code.length := by omega
    obtain ⟨x, hx⟩ : ∃ x, f.code[kn]? = some x := ⟨_, List.getElem?_eq_getElem hkl⟩
    have hat := rowIns_at hx
    simp only [i64v] at hat
    have hWT : WkOk f.code.length D T := ⟨hW.l, hW.d, fun y hy => hW.t y (by rw [hT]; simp [hy])⟩
    have hkD : kn < D.length := by have := hW.l; omega
    have hdk := hW.d D[kn] (List.getElem_mem hkD)
    have hdA : dAt D kn = D[kn] := by simp [dAt, hkD]
    have hmu : mu D ((kn : Int) :: T) = mu D T + 1 := by simp [mu]; omega
    rw [hT, hmu, walkF] at hF
    rw [hT, hmu] at hM
    simp only [walkS, Int.toNat_natCast, hx] at hF
    have g1 : 0 < C.length - o := by omega
    have g2 : 1 ≤ C.length - o := by omega
    have g3 : (1 : Int) ≤ ((C.length - o : Nat) : Int) := by omega
    have g4 : (0 : Int) < ((C.length - o : Nat) : Int) := by omega
    have hsd := Sound_T I f x
    simp only [Fn.cells, Ins.cells, i64v] at hsd
    simp [i64v, Fn.cells, g1, g2, g3, g4, hoC, hCk, hkl, hkl', hat]
    intro v10
    refine callT_eq [] hsd ?_
    cases hs' : soundV I f x with
    | false =>
      simp [hs'] at hF
      subst hF
      simp
      exact ⟨D, rfl⟩
    | true =>
      have heb := effV_b hI hs'
      have hef := Eff_T I x fun h15 => by simpa [soundV, h15] using hs'
      have hnx := VNext_T x kn (by omega)
      have hnl := nextV_len x kn
      have hnb := nextV_b (k := kn) (by omega) hs'
      simp only [Fn.cells, Ins.cells, i64v] at hef hnx
      simp only [hs', hdA] at hF
      generalize effV I x = ef at heb hef hF
      obtain ⟨e1, e2⟩ := ef
      simp only at heb hef hF
      have ew1 : IntKind.i64.wrap (D[kn] - e1) = D[kn] - e1 := i64_id (by omega) (by omega)
      have ew2 : IntKind.i64.wrap (D[kn] - e1 + e2) = D[kn] - e1 + e2 := i64_id (by omega) (by omega)
      simp [i64v]
      refine callT_eq [] hef ?_
      by_cases c1 : D[kn] < e1
      · have hW1 : (kn : Int) = W := by simpa [c1] using hF
        subst hW1
        simp [i64v, Fn.cells, hkD, c1, ew1, ew2]
        exact ⟨hkl, D, rfl⟩
      by_cases c2 : 64 < D[kn] - e1 + e2
      · have hW1 : (kn : Int) = W := by simpa [c2] using hF
        subst hW1
        simp [i64v, Fn.cells, hkD, c1, c2, ew1, ew2]
        exact ⟨hkl, D, rfl⟩
      by_cases c3 : x.op = 16 ∧ ¬ D[kn] = 1
      · have hW1 : (kn : Int) = W := by simpa [c3] using hF
        subst hW1
        simp [i64v, Fn.cells, hkD, c1, c2, c3.1, c3.2, ew1, ew2]
        exact ⟨hkl, D, rfl⟩
      rw [if_neg (by simp), if_neg (by rintro (h | h | h) <;> contradiction)] at hF
      have c3' : x.op = 16 → D[kn] = 1 := fun h => Classical.byContradiction fun h' => c3 ⟨h, h'⟩
      simp [i64v, Fn.cells, g1, g2, g3, g4, hoC, hCk, hkl, hkl', hat, ew1, ew2, c1, c2, hkD]
      refine ⟨fun h h' => absurd (c3' h) h', fun _ => callT_eq [] hnx ?_⟩
      generalize nextV x kn = nx at hnb hnl hF
      generalize hnn : D[kn] - e1 + e2 = n at hF
      have hn0 : 0 ≤ n := by omega
      have hn64 : n ≤ 64 := by omega
      simp [i64v]
      refine loopT_of (Nat × Nat × List Int × List Int × Nat) (fun y => y.1 ≤ nx.length ∧ y.2.1 ≤ y.2.2.1.length ∧ WkOk f.code.length y.2.2.2.1 (y.2.2.1.drop y.2.1) ∧ mu y.2.2.2.1 (y.2.2.1.drop y.2.1) ≤ mu D T ∧ reachV n f.code.length (nx.drop y.1) y.2.2.2.1 (y.2.2.1.drop y.2.1) = reachV n f.code.length nx D T)
        (fun y => ⟨[(2, .at 2 v2 0), (3, .at 3 v3 0), (6, .sl 19 v19 0 f.code.length), (8, .sl 31 y.2.2.2.2 y.2.1 (y.2.2.1.length - y.2.1)), (9, i64v kn), (13, i64v n), (90, .isl (nx.map i64v) nx.length), (91, i64v nx.length), (92, i64v y.1)], wkH v2 v3 v19 y.2.2.2.2 I f y.2.2.2.1 y.2.2.1⟩)
        (fun y => nx.length - y.1) (0, o + 1, C, D, vT) ⟨by simp, by simp only; omega, by simpa only [hCT] using hWT, by simp only [hCT]; exact Nat.le_refl _, by simp only [hCT, List.drop_zero]⟩ (by simp [i64v, Nat.sub_sub]) (by simp [i64v, Fn.cells]) ?_
      rintro ⟨j, o2, C2, D2, vT2⟩ ⟨hj, ho2, hW2, hm2, hR⟩
      simp only at hj ho2 hW2 hm2 hR ⊢
      by_cases gj : j < nx.length
      · have gj' : (j : Int) < nx.length := by omega
        have ej : IntKind.i64.wrap ((j : Int) + 1) = ((j + 1 : Nat) : Int) := by rw [i64_id (by omega) (by omega)]; rfl
        rw [List.drop_eq_getElem_cons gj, reachV] at hR
        have hk2 := hnb nx[j] (List.getElem_mem gj)
        have hlen2 := hW2.l
        by_cases c4 : (f.code.length : Int) ≤ nx[j]
        · rw [if_pos (.inl c4)] at hR
          rw [← hR] at hF
          simp only at hF
          subst hF
          have hnone : D2[nx[j].toNat]? = none := List.getElem?_eq_none (by omega)
          simp [i64v, Fn.cells, gj, gj', c4, hnone]
          exact ⟨D2, rfl⟩
        · obtain ⟨k2, hk2e⟩ : ∃ k2 : Nat, nx[j] = k2 := ⟨nx[j].toNat, by omega⟩
          rw [hk2e] at hR c4
          have hk2l : k2 < f.code.length := by omega
          have hk2D : k2 < D2.length := by omega
          have hd2 : dAt D2 (k2 : Int) = D2[k2] := by simp [dAt, hk2D]
          rw [hd2] at hR
          by_cases c5 : 0 ≤ D2[k2] ∧ D2[k2] ≠ n
          · rw [if_pos (.inr c5)] at hR
            rw [← hR] at hF
            simp only at hF
            subst hF
            simp [i64v, Fn.cells, gj, gj', c4, hk2e, hk2l, hk2D, c5]
            exact ⟨D2, rfl⟩
          · rw [if_neg (by rintro (h | h) <;> contradiction)] at hR
            have c5' : 0 ≤ D2[k2] → D2[k2] = n := fun h => Classical.byContradiction fun h' => c5 ⟨h, h'⟩
            by_cases c6 : D2[k2] < 0
            · rw [if_pos c6] at hR
              have c6' : ¬ 0 ≤ D2[k2] := by omega
              simp [i64v, Fn.cells, gj, gj', c4, hk2e, hk2l, hk2D, c6, c6']
              have hm3 := mu_reach1 (k := (k2 : Int)) (n := n) hW2 (by omega) (by omega) hn0 (by rw [hd2]; exact c6)
              have hdl : (C2.drop o2).length = C2.length - o2 := by simp
              have hml : (C2.drop o2).length ≤ mu D2 (C2.drop o2) := by simp only [mu]; omega
              have hso := set_over (D := D2) (k := k2) (x := n) hk2D
              simp only [i64v] at hso
              have htk : List.take (C2.length - o2) (List.drop o2 (List.map i64v C2)) = List.drop o2 (List.map i64v C2) := List.take_of_length_le (by simp)
              have hW3 := hW2.reach1 (k := (k2 : Int)) (n := n) (by omega) (by omega) hn0 hn64
              simp only [Int.toNat_natCast] at hm3 hW3 hR
              exact ⟨by omega, fun v128 => ⟨by omega, by omega, fun vT3 => SLx.again (j + 1, 0, C2.drop o2 ++ [(k2 : Int)], D2.set k2 n, vT3) ⟨by simp only; omega, by simp, by simpa only [List.drop_zero] using hW3, by simp only [List.drop_zero]; omega, by simpa only [List.drop_zero] using hR⟩ (by simp only; omega) (by simp [i64v, ej]) (by simp [i64v, Fn.cells, hso, htk])⟩⟩
            · rw [if_neg c6] at hR
              have c6' : 0 ≤ D2[k2] := by omega
              have hn0' : ¬ n < 0 := by omega
              simp [i64v, Fn.cells, gj, gj', c4, hk2e, hk2l, hk2D, c6, c6', c5' c6', hn0']
              exact SLx.again (j + 1, o2, C2, D2, vT2) ⟨by simp only; omega, ho2, hW2, hm2, hR⟩ (by simp only; omega) (by simp [i64v, ej]) (by simp [i64v, Fn.cells])
      · have hjn : j = nx.length := by omega
        subst hjn
        simp only [List.drop_length, reachV] at hR
        rw [← hR] at hF
        simp only at hF
        rw [walkF_to hI hW2 hm2] at hF
        simp [i64v, Fn.cells]
        exact SLx.again (o2, C2, D2, vT2) ⟨ho2, by simp only; omega, hW2, hF⟩ (by simp only; omega) (by simp [i64v]) (by simp [i64v, Fn.cells])
end Go.Proofs.YtnkdkajllmopaaaGreat.TL

namespace Go.Proofs.YtnkdkajllmopaaaGreat.TL
open Go
set_option linter.unusedVariables false
set_option linter.unusedSimpArgs false

theorem Walk_T (I : List Fn) (hI : ArgsOk I) (f : Fn) (h1 : 1 ≤ f.code.length) (h128 : f.code.length ≤ 128) : callT Tryz.prog 80 [.agg [.isl (rowFn I) I.length], .agg f.cells] ⟨[], []⟩ (fun r h => ∃ l : List Int, r = .tup [.isl (l.map i64v) l.length, i64v (walkV I f)] ∧ h = []) := by
  refine callT.mono (Walk_0 I hI f h1 h128) fun r h hh => ?_
  rcases hh with ⟨hW, v, D, hl, rfl, rfl⟩ | ⟨v, D, rfl, rfl⟩
  · refine VLx.frz 19 rfl (VLx.done ⟨D, ?_⟩)
    rw [hW]
    have e : List.take D.length (D.map i64v) = D.map i64v := List.take_of_length_le (by simp)
    simp [e, i64v]
  · exact VLx.sub [] (by simp) (VLx.nil1 ⟨[], by simp, rfl⟩)

/-- Is a function's head one that may not be? -/
def hdV (k : Nat) (f : Fn) : Bool :=
  decide (f.args < 0) || (decide (f.locs < f.args) || (decide (16 < f.locs) || ((decide (k < 2) && !decide (f.args = if k = 0 then 1 else 4)) || (decide (f.code.length < 1) || decide (128 < f.code.length)))))
def hdsV (k : Nat) : List Fn → Bool
  | [] => false
  | f :: l => hdV k f || hdsV (k + 1) l
def badV (I : List Fn) (l : List Fn) : Bool := l.any fun f => decide (0 ≤ walkV I f)
/-- May an image be run? The error's number. -/
def chkV (I : List Fn) : Int := if I.length < 2 ∨ 16 < I.length then 14 else if hdsV 0 I then 14 else if badV I I then 14 else 0

theorem hdsV_all : ∀ {l : List Fn} {k : Nat}, hdsV k l = false → ∀ f ∈ l, 0 ≤ f.args ∧ f.args ≤ f.locs ∧ f.locs ≤ 16 ∧ 1 ≤ f.code.length ∧ f.code.length ≤ 128
  | [], _, _, f, hf => by simp at hf
  | g :: l, k, h, f, hf => by
    simp only [hdsV, Bool.or_eq_false_iff] at h
    rcases List.mem_cons.1 hf with rfl | hf
    · have := h.1
      simp only [hdV, Bool.or_eq_false_iff, decide_eq_false_iff_not] at this
      omega
    · exact hdsV_all h.2 f hf

theorem Entry_T (k : Nat) : callT Tryz.prog 79 [i64v k] ⟨[], []⟩ (fun r h => r = i64v (if k = 0 then 1 else 4) ∧ h = []) := by
  refine callT_of_body [0, 2, 4] [] Tryz.func79 rfl (by decide) (by kernel_rfl) rfl ?_
  by_cases h0 : k = 0
  · subst h0; simp [i64v]
  · simp [i64v, h0]

set_option maxHeartbeats 4000000 in
set_option maxRecDepth 100000 in
theorem VChk_T (I : List Fn) (hI : I.length ≤ 1000000) : callT Tryz.prog 56 [.agg [.isl (rowFn I) I.length]] ⟨[], []⟩ (fun r h => ∃ a b : Int, r = .tup [.agg [i64v a, i64v b], i64c (chkV I)] ∧ h = []) := by
  refine callT_of_body [0, 1, 2, 3, 4, 5, 6, 7, 8, 10, 20, 23, 24, 25, 26, 66, 71, 72, 73, 74, 85] [] Tryz.func56 rfl (by decide) (by kernel_rfl) rfl ?_
  by_cases l1 : I.length < 2
  · have l1' : (I.length : Int) < 2 := by omega
    simp [i64v, i64c, chkV, l1, l1']
  have l1' : ¬ (I.length : Int) < 2 := by omega
  by_cases l2 : 16 < I.length
  · have l2' : 16 < (I.length : Int) := by omega
    simp [i64v, i64c, chkV, l1, l2, l1', l2']
  have l2' : ¬ 16 < (I.length : Int) := by omega
  simp [i64v, i64c, l1', l2', -Int.not_lt]
  intro v1 v2
  refine loopT_of Nat (fun j => j ≤ I.length ∧ hdsV j (I.drop j) = hdsV 0 I) (fun j => ⟨[(1, .at 1 v1 0), (2, .at 2 v2 0), (23, .isl (rowFn I) I.length), (24, i64v I.length), (25, i64v j)], [(1, v1, ⟨0, [.isl (rowFn I) I.length]⟩), (2, v2, ⟨0, [i64v 0, i64v 0]⟩)]⟩) (fun j => I.length - j) 0 (by simp) (by simp [i64v]) (by simp [i64v]) ?_
  rintro j ⟨hj, hH⟩
  by_cases g : j < I.length
  · have g' : (j : Int) < I.length := by omega
    have ej : IntKind.i64.wrap ((j : Int) + 1) = ((j + 1 : Nat) : Int) := by rw [i64_id (by omega) (by omega)]; rfl
    rw [List.drop_eq_getElem_cons g, hdsV] at hH
    have hat := rowFn_at (List.getElem?_eq_getElem g)
    generalize I[j] = f at hH hat
    simp only [i64v] at hat
    have hen := Entry_T j
    simp only [i64v] at hen
    have b : ∀ c : Bool, (decide (f.args < 0) || (decide (f.locs < f.args) || (decide (16 < f.locs) || ((decide (j < 2) && !decide (f.args = if j = 0 then 1 else 4)) || (decide (f.code.length < 1) || decide (128 < f.code.length)))))) = c → hdV j f = c := fun c h => h
    have en : (decide (f.code.length < 1) = decide ((f.code.length : Int) < 1)) ∧ decide (128 < f.code.length) = decide (128 < (f.code.length : Int)) ∧ decide (j < 2) = decide ((j : Int) < 2) := ⟨decide_eq_decide.2 (by omega), decide_eq_decide.2 (by omega), decide_eq_decide.2 (by omega)⟩
    rw [en.1, en.2.1, en.2.2] at b
    generalize (if j = 0 then (1 : Int) else 4) = en4 at b hen
    have hchk : hdV j f = true → chkV I = 14 := fun h => by
      rw [h, Bool.true_or] at hH
      simp [chkV, ← hH, l1, l2]
    simp [i64v, Fn.cells, g, g', hat]
    intro v5
    refine draw_g [0, 1, 2, 3, 4, 5, 6, 7, 8, 9, 10, 11, 12, 13, 14, 15, 16, 17, 18, 19, 20, 21, 22] 23 [(22, [0, 1, 2, 3, 4, 5, 6, 7, 8, 9, 10, 11, 12, 13, 14, 15, 16, 17, 18, 21])] (by kernel_rfl) (by kernel_rfl) (by kernel_rfl) ?_
    by_cases b1 : f.args < 0
    · have hbt : hdV j f = true := by simp [hdV, b1]
      simp [i64v, b1, hchk hbt]
    by_cases b2 : f.locs < f.args
    · have hbt : hdV j f = true := by simp [hdV, b2]
      simp [i64v, b1, b2, hchk hbt]
    by_cases b3 : 16 < f.locs
    · have hbt : hdV j f = true := by simp [hdV, b3]
      simp [i64v, b1, b2, b3, hchk hbt]
    by_cases b4 : (j : Int) < 2
    · simp [i64v, b1, b2, b3, b4]
      refine callT_eq [] hen ?_
      by_cases b5 : f.args = en4
      · by_cases b6 : (f.code.length : Int) < 1
        · have hbt := b true (by simp [b6])
          simp [i64v, b5, b6, hchk hbt]
        by_cases b7 : 128 < (f.code.length : Int)
        · have hbt := b true (by simp [b7])
          simp [i64v, b5, b6, b7, hchk hbt]
        have hbf := b false (by rw [decide_eq_false b1, decide_eq_false b2, decide_eq_false b3, decide_eq_true b5, decide_eq_false b6, decide_eq_false b7]; simp)
        simp [i64v, b5, b6, b7, ej]
        exact SLx.again (j + 1) ⟨by omega, by rw [← hH, hbf, Bool.false_or]⟩ (by omega) (by simp [i64v]) (by simp [i64v])
      · have hbt := b true (by simp [b4, b5])
        simp [i64v, b5, hchk hbt]
    · by_cases b6 : (f.code.length : Int) < 1
      · have hbt := b true (by simp [b6])
        simp [i64v, b1, b2, b3, b4, b6, hchk hbt]
      by_cases b7 : 128 < (f.code.length : Int)
      · have hbt := b true (by simp [b7])
        simp [i64v, b1, b2, b3, b4, b6, b7, hchk hbt]
      have hbf := b false (by simp [b1, b2, b3, b4, b6, b7])
      simp [i64v, b1, b2, b3, b4, b6, b7, ej]
      exact SLx.again (j + 1) ⟨by omega, by rw [← hH, hbf, Bool.false_or]⟩ (by omega) (by simp [i64v]) (by simp [i64v])
  · have hjl : j = I.length := by omega
    subst hjl
    have hH0 : hdsV 0 I = false := by rw [← hH]; simp [hdsV]
    have hA := hdsV_all hH0
    have hAO : ArgsOk I := fun g hg => ⟨(hA g hg).1, Int.le_trans (hA g hg).2.1 (hA g hg).2.2.1⟩
    simp [i64v]
    refine loopT_of Nat (fun j => j ≤ I.length ∧ badV I (I.drop j) = badV I I) (fun j => ⟨[(1, .at 1 v1 0), (2, .at 2 v2 0), (71, .isl (rowFn I) I.length), (72, i64v I.length), (73, i64v j)], [(1, v1, ⟨0, [.isl (rowFn I) I.length]⟩), (2, v2, ⟨0, [i64v 0, i64v 0]⟩)]⟩) (fun j => I.length - j) 0 (by simp) (by simp [i64v]) (by simp [i64v]) ?_
    rintro j ⟨hj, hB⟩
    by_cases g : j < I.length
    · have g' : (j : Int) < I.length := by omega
      have ej : IntKind.i64.wrap ((j : Int) + 1) = ((j + 1 : Nat) : Int) := by rw [i64_id (by omega) (by omega)]; rfl
      rw [List.drop_eq_getElem_cons g] at hB
      have hat := rowFn_at (List.getElem?_eq_getElem g)
      have hAf := hA _ (List.getElem_mem g)
      generalize I[j] = f at hB hat hAf
      have hWk := Walk_T I hAO f hAf.2.2.2.1 hAf.2.2.2.2
      simp only [i64v] at hat
      simp only [Fn.cells, i64v] at hWk
      simp [i64v, Fn.cells, g, g', hat]
      intro v8
      refine callT_exa (α := List Int) [] hWk ?_
      by_cases c : 0 ≤ walkV I f
      · have hc : chkV I = 14 := by
          have : badV I I = true := by rw [← hB]; simp [badV, c]
          simp [chkV, l1, l2, hH0, this]
        simp [i64v, c, hc]
      · have hB' : badV I (I.drop (j + 1)) = badV I I := by rw [← hB]; simp [badV, c]
        simp [i64v, c]
        exact SLx.again (j + 1) ⟨by omega, hB'⟩ (by omega) (by simp [i64v, ej]) (by simp [i64v])
    · have hjl : j = I.length := by omega
      subst hjl
      have hc : chkV I = 0 := by
        have : badV I I = false := by rw [← hB]; simp [badV]
        simp [chkV, l1, l2, hH0, this]
      simp [i64v, hc]
end Go.Proofs.YtnkdkajllmopaaaGreat.TL

