/- Orders: what each of their functions does. -/
import Derived.Test.YtnkdkajllmopaaaGreatUOut
import Derived.Test.YtnkdkajllmopaaaGreatUIn
import Derived.Test.YtnkdkajllmopaaaGreatUR2
import Derived.Test.YtnkdkajllmopaaaGreatUUnit
/- Batches of orders: their bytes. -/
/- Batches of orders: read of bytes. -/
/- Orders: the reference's check. -/
/- Orders: may a player order them. -/
/- The law's Tidy; orders, told. -/
namespace Go.Proofs.YtnkdkajllmopaaaGreat.TL
open Go
set_option linter.unusedVariables false
set_option linter.unusedSimpArgs false

structure Ord where
  k : Int
  u : Int
  a : Int
  b : Int

def Ord.cells (o : Ord) : List TV := [i64c o.k, i64c o.u, i64c o.a, i64c o.b]
def rowC (l : List Ord) : List TV := (l.map Ord.cells).flatten
def far (n : Int) : Bool := decide (n < -1000) || decide (1000 < n)
/-- The error's number. -/
def Ord.chk (o : Ord) : Int :=
  if o.k < 1 ∨ 4 < o.k then 7
  else if o.u < 0 ∨ 1099511627776 ≤ o.u ∨ ¬ (o.k = 3 ↔ o.u = 0) then 4
  else if o.k = 4 ∧ (o.a ≠ 0 ∨ o.b ≠ 0) ∨ o.k = 2 ∧ (o.a < 1 ∨ 1099511627776 ≤ o.a ∨ o.b ≠ 0) then 4
  else if o.k = 1 ∧ (far o.a ∨ far o.b) ∨ o.k = 3 ∧ (o.a < 0 ∨ 255 < o.a ∨ far o.b) then 4 else 0

set_option maxRecDepth 100000 in
theorem Far_T (n : Int) : callT Tryz.prog 77 [i64c n] ⟨[], []⟩ (fun r h => r = .v (.bool (far n)) ∧ h = []) := by
  refine callT_of_body [0, 2] [] Tryz.func77 rfl (by decide) (by kernel_rfl) rfl ?_
  simp [i64c]
  rfl

set_option maxRecDepth 100000 in
theorem Check_1 (u a b : Int) (u1 : 0 ≤ u) (u2 : u < 1099511627776) (u3 : ¬ u = 0) : callT Tryz.prog 52 [.agg (Ord.mk 1 u a b).cells] ⟨[], []⟩ (fun r h => r = i64c (Ord.mk 1 u a b).chk ∧ h = []) := by
  refine callT_of_body [0, 1, 2, 3, 12, 30, 62] [] Tryz.func52 rfl (by decide) (by kernel_rfl) rfl ?_
  simp [Ord.cells, i64c, u1, u2, u3]
  intro v
  refine ⟨fun h => by omega, ?_⟩
  refine callT_eq [] (Far_T a) ?_
  by_cases fa : far a = true
  · simp [i64c, fa, Ord.chk, u1, u2, u3]
  · simp [i64c, fa]
    refine callT_eq [] (Far_T b) ?_
    by_cases fb : far b = true <;> simp [i64c, fa, fb, Ord.chk, u1, u2, u3]

set_option maxRecDepth 100000 in
theorem Check_2 (u a b : Int) (u1 : 0 ≤ u) (u2 : u < 1099511627776) (u3 : ¬ u = 0) : callT Tryz.prog 52 [.agg (Ord.mk 2 u a b).cells] ⟨[], []⟩ (fun r h => r = i64c (Ord.mk 2 u a b).chk ∧ h = []) := by
  refine callT_of_body [0, 1, 2, 3, 12, 30, 62] [] Tryz.func52 rfl (by decide) (by kernel_rfl) rfl ?_
  simp [Ord.cells, i64c, u1, u2, u3]
  refine ⟨fun h => by omega, fun h => ?_, fun h1 h2 h3 => ?_⟩
  · have : ¬ (u < 0 ∨ 1099511627776 ≤ u) := by omega
    simp [Ord.chk, this, u3]; omega
  · simp [Ord.chk, u1, u2, u3]; omega

set_option maxRecDepth 100000 in
theorem Check_4 (u a b : Int) (u1 : 0 ≤ u) (u2 : u < 1099511627776) (u3 : ¬ u = 0) : callT Tryz.prog 52 [.agg (Ord.mk 4 u a b).cells] ⟨[], []⟩ (fun r h => r = i64c (Ord.mk 4 u a b).chk ∧ h = []) := by
  refine callT_of_body [0, 1, 2, 3, 12, 30, 62] [] Tryz.func52 rfl (by decide) (by kernel_rfl) rfl ?_
  have : ¬ (u < 0 ∨ 1099511627776 ≤ u) := by omega
  by_cases h1 : a = 0 <;> by_cases h2 : b = 0 <;> simp [Ord.cells, i64c, u1, u2, u3, h1, h2, Ord.chk, this]

set_option maxRecDepth 100000 in
theorem Check_3 (a b : Int) : callT Tryz.prog 52 [.agg (Ord.mk 3 0 a b).cells] ⟨[], []⟩ (fun r h => r = i64c (Ord.mk 3 0 a b).chk ∧ h = []) := by
  refine callT_of_body [0, 1, 2, 3, 12, 30, 62] [] Tryz.func52 rfl (by decide) (by kernel_rfl) rfl ?_
  by_cases h1 : a < 0
  · have h2 : ¬ 255 < a := by omega
    simp [Ord.cells, i64c, h1, h2, Ord.chk]
  · by_cases h2 : 255 < a
    · simp [Ord.cells, i64c, h1, h2, Ord.chk]
    · simp [Ord.cells, i64c, h1, h2]
      intro v
      refine callT_eq [] (Far_T b) ?_
      by_cases fb : far b = true <;> simp [i64c, fb, Ord.chk, h1, h2]

set_option maxRecDepth 100000 in
theorem Check_0 (k u a b : Int) (h0 : k < 1 ∨ 4 < k) : callT Tryz.prog 52 [.agg (Ord.mk k u a b).cells] ⟨[], []⟩ (fun r h => r = i64c (Ord.mk k u a b).chk ∧ h = []) := by
  refine callT_of_body [0, 1, 2, 3, 12, 30, 62] [] Tryz.func52 rfl (by decide) (by kernel_rfl) rfl ?_
  have : (decide (k < 1) || decide (4 < k)) = true := by simpa using h0
  simp [Ord.cells, i64c, this, Ord.chk, h0]

set_option maxRecDepth 100000 in
theorem Check_u (k u a b : Int) (hk : k = 1 ∨ k = 2 ∨ k = 3 ∨ k = 4) (hu : u < 0 ∨ 1099511627776 ≤ u ∨ ¬ (k = 3 ↔ u = 0)) : callT Tryz.prog 52 [.agg (Ord.mk k u a b).cells] ⟨[], []⟩ (fun r h => r = i64c (Ord.mk k u a b).chk ∧ h = []) := by
  refine callT_of_body [0, 1, 2, 3, 12, 30, 62] [] Tryz.func52 rfl (by decide) (by kernel_rfl) rfl ?_
  have h1 : (decide (u < 0) || decide (1099511627776 ≤ u) || !(decide (k = 3) == decide (u = 0))) = true := by
    simpa [or_assoc] using hu
  have h2 : (Ord.mk k u a b).chk = 4 := by
    have h3 : ¬ (k < 1 ∨ 4 < k) := by omega
    simp only [Ord.chk]
    rw [if_neg h3, if_pos hu]
  have h3 : (decide (k < 1) || decide (4 < k)) = false := by
    rw [Bool.or_eq_false_iff, decide_eq_false_iff_not, decide_eq_false_iff_not]; omega
  rw [h2]
  simp [Ord.cells, i64c, h1, h3]

theorem Check_T (o : Ord) : callT Tryz.prog 52 [.agg o.cells] ⟨[], []⟩ (fun r h => r = i64c o.chk ∧ h = []) := by
  obtain ⟨k, u, a, b⟩ := o
  by_cases h0 : k < 1 ∨ 4 < k
  · exact Check_0 k u a b h0
  · have hk : k = 1 ∨ k = 2 ∨ k = 3 ∨ k = 4 := by omega
    by_cases hu : u < 0 ∨ 1099511627776 ≤ u ∨ ¬ (k = 3 ↔ u = 0)
    · exact Check_u k u a b hk hu
    · have hu' : (k = 3 ↔ u = 0) := Classical.not_not.1 fun h => hu (.inr (.inr h))
      rcases hk with rfl | rfl | rfl | rfl
      · simp at hu'; exact Check_1 u a b (by omega) (by omega) hu'
      · simp at hu'; exact Check_2 u a b (by omega) (by omega) hu'
      · simp at hu'; subst hu'; exact Check_3 a b
      · simp at hu'; exact Check_4 u a b (by omega) (by omega) hu'
end Go.Proofs.YtnkdkajllmopaaaGreat.TL

namespace Go.Proofs.YtnkdkajllmopaaaGreat.TL
open Go
set_option linter.unusedVariables false
set_option linter.unusedSimpArgs false

def i64ok (n : Int) : Prop := -9223372036854775808 ≤ n ∧ n ≤ 9223372036854775807
def Ord.ok (o : Ord) : Prop := i64ok o.k ∧ i64ok o.u ∧ i64ok o.a ∧ i64ok o.b
def Ord.ob (o : Ord) : List UInt8 := nb o.k.toNat ++ (nb (IntKind.u64.wrap o.u).toNat ++ (nb (zig o.a) ++ nb (zig o.b)))
def obs (l : List Ord) : List UInt8 := (l.map Ord.ob).flatten
def batchB (l : List Ord) : List UInt8 := nb l.length ++ obs l

@[simp] theorem rowC_nil : rowC [] = [] := rfl
@[simp] theorem rowC_cons (o : Ord) (l : List Ord) : rowC (o :: l) = o.cells ++ rowC l := rfl
@[simp] theorem rowC_append (l l' : List Ord) : rowC (l ++ l') = rowC l ++ rowC l' := by simp [rowC]
@[simp] theorem rowC_length : ∀ l : List Ord, (rowC l).length = l.length * 4
  | [] => rfl
  | o :: l => by simp [rowC_length l, Ord.cells]; omega
theorem rowC_drop : ∀ (n : Nat) (l : List Ord), (rowC l).drop (n * 4) = rowC (l.drop n)
  | 0, l => by simp
  | n + 1, [] => by simp
  | n + 1, o :: l => by
    have := rowC_drop n l
    rw [show (n + 1) * 4 = 4 + n * 4 by omega, ← List.drop_drop]
    simpa [Ord.cells] using this
theorem rowC_take : ∀ (n : Nat) (l : List Ord), (rowC l).take (n * 4) = rowC (l.take n)
  | 0, l => by simp
  | n + 1, [] => by simp
  | n + 1, o :: l => by
    have := rowC_take n l
    rw [show (n + 1) * 4 = n * 4 + 4 by omega]
    simpa [Ord.cells] using this
theorem ob_len {o : Ord} (h : o.ok) : o.ob.length ≤ 40 := by
  obtain ⟨h1, h2, h3, h4⟩ := h
  unfold i64ok at h1 h2 h3 h4
  have e1 := nb_len10 (n := o.k.toNat) (by omega)
  have e2 := nb_len10 (n := (IntKind.u64.wrap o.u).toNat) (by rw [IntKind.wrap_u64]; omega)
  have e3 := nb_len10 (zig_lt h3.1 h3.2)
  have e4 := nb_len10 (zig_lt h4.1 h4.2)
  simp only [Ord.ob, List.length_append]
  omega
theorem obs_len : ∀ {l : List Ord}, (∀ o ∈ l, o.ok) → (obs l).length ≤ 40 * l.length
  | [], _ => by simp [obs]
  | o :: l, h => by
    have h1 := ob_len (h o List.mem_cons_self)
    have h2 := obs_len (l := l) fun m hm => h m (List.mem_cons_of_mem _ hm)
    simp only [obs, List.map_cons, List.flatten_cons, List.length_append, List.length_cons] at h2 ⊢
    omega

theorem rowC_at {l : List Ord} {k : Nat} (h : k < l.length) : List.drop (k * 4) (rowC l) = i64c l[k].k :: i64c l[k].u :: i64c l[k].a :: i64c l[k].b :: rowC (l.drop (k + 1)) := by
  rw [rowC_drop, List.drop_eq_getElem_cons h]; rfl
theorem obs_snoc (l : List Ord) (o : Ord) : obs (l ++ [o]) = obs l ++ o.ob := by simp [obs]

theorem rowC_clo (l : List Ord) : CloL (rowC l) ∧ AllC (rowC l) := by
  induction l with
  | nil => simp
  | cons o l ih => simp [Ord.cells, i64c, ih.1, ih.2]
@[simp] theorem rowC_CloL (l : List Ord) : CloL (rowC l) := (rowC_clo l).1
@[simp] theorem rowC_AllC (l : List Ord) : AllC (rowC l) := (rowC_clo l).2

end Go.Proofs.YtnkdkajllmopaaaGreat.TL

namespace Go.Proofs.YtnkdkajllmopaaaGreat.TL
open Go
set_option linter.unusedVariables false
set_option linter.unusedSimpArgs false

def In.ord (i : In) : In × Ord :=
  let c1 := i.count 4
  let c2 := c1.1.count 1099511627776
  let c3 := c2.1.int
  let c4 := c3.1.int
  let o : Ord := ⟨c1.2, c2.2, c3.2, c4.2⟩
  (c4.1.fail o.chk, o)
def In.ords : Nat → In → List Ord → In × List Ord
  | 0, i, l => (i, l)
  | n + 1, i, l => if i.e ≠ 0 then (i, l) else ords n i.ord.1 (l ++ [i.ord.2])
def In.batch (i : In) : In × List Ord :=
  let p := i.count 8
  let q := In.ords p.2.toNat p.1 []
  (q.1, if q.1.e ≠ 0 then [] else q.2)

theorem In.count_le (i : In) (m : Int) (hm : 0 ≤ m) : 0 ≤ (i.count m).2 ∧ (i.count m).2 ≤ m := by
  unfold In.count
  split
  · exact ⟨Int.le_refl _, hm⟩
  · exact ⟨by simp, by simp only; omega⟩

/-- The nil slice as one that never changes. -/
theorem VLx.nil {h : Heap} {S : TV → Heap → Prop} (k : S (.isl [] 0) h) : VLx (.v (.slice none 0 0)) h S := fun e E w v H hv => by
  simp only [RV] at hv
  exact ⟨_, h, E, k, Env.Le.refl E, H, by simp only [RV]; exact .inl ⟨trivial, trivial, hv⟩⟩

/-- Bytes as a batch, the error's number. -/
def parseB (l : List UInt8) : List Ord × Int :=
  let p := (In.mk l 0).batch
  if p.1.fin.e ≠ 0 then ([], p.1.fin.e) else (p.2, 0)

/-- The first part of a pair: the nil slice as one that never changes. -/
theorem VLx.nil1 {h : Heap} {S : TV → Heap → Prop} {l : List TV} (k : S (.tup (.isl [] 0 :: l)) h) : VLx (.tup (.v (.slice none 0 0) :: l)) h S := fun e E w v H hv => by
  refine ⟨_, h, E, k, Env.Le.refl E, H, ?_⟩
  simp only [RV, RVl] at hv ⊢
  obtain ⟨zs, h1, h2, ⟨x, h3, h4⟩, h5⟩ := hv
  exact ⟨zs, h1, h2, ⟨x, h3, .inl ⟨trivial, trivial, h4⟩⟩, h5⟩

/-- The error's number of a batch. -/
def chkAll : List Ord → Int
  | [] => 0
  | o :: l => if o.chk ≠ 0 then o.chk else chkAll l
def batchChk (l : List Ord) : Int := if 8 < l.length then 8 else chkAll l

set_option maxRecDepth 100000 in
theorem BCheck_T (l : List Ord) (hl : l.length ≤ 1000000) : callT Tryz.prog 82 [.isl (rowC l) l.length] ⟨[], []⟩ (fun r h => r = i64c (batchChk l) ∧ h = []) := by
  refine callT_of_body [0, 2, 4, 5, 8, 9, 10, 11, 12, 18] [] Tryz.func82 rfl (by decide) (by kernel_rfl) rfl ?_
  by_cases h8 : 8 < l.length
  · have : (8 : Int) < l.length := by omega
    simp [this, batchChk, h8, i64c]
  · have h8' : ¬ (8 : Int) < l.length := by omega
    simp [h8']
    refine loopT_of Nat (fun k => k ≤ l.length ∧ chkAll (l.drop k) = chkAll l) (fun k => ⟨[(9, .isl (rowC l) l.length), (10, .v (.int .i64 l.length)), (11, .v (.int .i64 k))], []⟩) (fun k => l.length - k) 0 (by simp) (by simp) (by simp) ?_
    rintro k ⟨hk, hr⟩
    by_cases h1 : k < l.length
    · simp [rowC_at h1, i64c, h1]
      intro v4
      refine callT_eq [] (Check_T l[k]) ?_
      rw [List.drop_eq_getElem_cons h1] at hr
      by_cases hc : l[k].chk = 0
      · simp [hc, Ord.cells, i64c]
        have e4 : IntKind.i64.wrap ((k : Int) + 1) = ((k + 1 : Nat) : Int) := by rw [i64_id (by omega) (by omega)]; rfl
        refine SLx.again (k + 1) ⟨by omega, by rw [← hr]; simp [chkAll, hc]⟩ (by omega) (by simp [e4]) (by simp)
      · simp [hc, Ord.cells, i64c, batchChk, h8]
        rw [← hr]; simp [chkAll, hc]
    · have e1 : k = l.length := by omega
      subst e1
      simp at hr
      simp [batchChk, h8, ← hr, chkAll, i64c]

set_option maxRecDepth 100000 in
theorem Of_T (u : Nat) (l : List Ord) (hl : l.length ≤ 1000000) : callT Tryz.prog 50 [.sl 1000 u 0 l.length] ⟨[], [(1000, u, ⟨4, rowC l⟩)]⟩
    (fun r h => ∃ u', r = .sl 8 u' 0 (l.take 8).length ∧ h = [(1000, u, ⟨4, rowC l⟩), (8, u', ⟨4, rowC (l.take 8)⟩)]) := by
  refine callT_of_body [0, 2, 5] [1000, 8] Tryz.func50 rfl (by decide) (by kernel_rfl) rfl ?_
  by_cases h8 : 8 < l.length
  · have : (8 : Int) < l.length := by omega
    have e1 := rowC_take 8 l
    simp [this, e1]
    omega
  · have h8' : ¬ (8 : Int) < l.length := by omega
    have e1 := rowC_take l.length l
    have e2 : List.take 8 l = l := List.take_of_length_le (by omega)
    simp [h8', e1, e2]
    omega
end Go.Proofs.YtnkdkajllmopaaaGreat.TL

namespace Go.Proofs.YtnkdkajllmopaaaGreat.TL
open Go
set_option linter.unusedVariables false
set_option linter.unusedSimpArgs false

def idR (n : Int) : Bool := decide (1 ≤ n) && decide (n < 1099511627776)
def placeR (n : Int) : Bool := decide (-1000 ≤ n) && decide (n ≤ 1000)
def Ord.chkR (o : Ord) : Int :=
  if o.k = 1 then (if idR o.u = true ∧ placeR o.a = true ∧ placeR o.b = true then 0 else 4)
  else if o.k = 2 then (if idR o.u = true ∧ idR o.a = true ∧ o.b = 0 then 0 else 4)
  else if o.k = 3 then (if o.u = 0 ∧ 0 ≤ o.a ∧ o.a ≤ 255 ∧ placeR o.b = true then 0 else 4)
  else if o.k = 4 then (if idR o.u = true ∧ o.a = 0 ∧ o.b = 0 then 0 else 4) else 7
theorem chk_eq (o : Ord) : o.chkR = o.chk := by
  simp only [Ord.chkR, Ord.chk, idR, placeR, far, Bool.and_eq_true, Bool.or_eq_true, decide_eq_true_eq]
  repeat' split
  all_goals omega

end Go.Proofs.YtnkdkajllmopaaaGreat.TL

namespace Go.Proofs.YtnkdkajllmopaaaGreat.TL
open Go
set_option linter.unusedVariables false
set_option linter.unusedSimpArgs false

def Ord.valid (o : Ord) (t : Tab) (p : Int) : Int :=
  if o.chk ≠ 0 then o.chk else if o.k = 3 then 0 else if found t.l o.u = false then 9 else if (t.unit o.u).1.b ≠ p then 13 else
  if o.k ≠ 2 then 0 else if found t.l o.a = false then 9 else if (t.unit o.a).1.b = p then 13 else 0
theorem unit_found (t : Tab) (id : Int) : (t.unit id).2 = found t.l id := by
  unfold Tab.unit
  split
  · rename_i hh; exact hh.symm
  · rename_i hh; simpa using hh

set_option maxHeartbeats 1000000 in
set_option maxRecDepth 100000 in
theorem Valid_T (v u : Nat) (o : Ord) (t : Tab) (p : Int) (ht : t.WF) : callT Tryz.prog 66 [.agg o.cells, .at 1000 v 0, i64v p] ⟨[], tabH v u t⟩ (fun r h => r = i64v (o.valid t p) ∧ h = tabH v u t) := by
  refine callT_of_body [0, 1, 2, 3, 6, 7, 8, 9, 10, 14, 18, 26, 29, 37, 45, 48] [1000, 1001] Tryz.func66 rfl (by decide) (by kernel_rfl) rfl ?_
  have hcl : o.cells = [i64v o.k, i64v o.u, i64v o.a, i64v o.b] := rfl
  simp [hcl, i64v]
  intro v3
  refine callT_eq [] (Check_T o) ?_
  by_cases hc : o.chk = 0
  · by_cases h3 : o.k = 3
    · simp [hcl, i64v, i64c, hc, h3, Ord.valid]
    · simp [hcl, i64v, i64c, hc, h3]
      refine callT_eq [(1000, 1000), (1001, 1001)] (Unit_T v u t o.u ht.ok) ?_
      by_cases hf : found t.l o.u = true
      · by_cases hp : (t.unit o.u).1.b = p
        · by_cases h2 : o.k = 2
          · simp [i64v, Un.cells, unit_found, hf, hp, h2]
            intro v8
            refine callT_eq [(1000, 1000), (1001, 1001)] (Unit_T v u t o.a ht.ok) ?_
            by_cases hg : found t.l o.a = true
            · by_cases hq : (t.unit o.a).1.b = p
              · simp [i64v, Un.cells, unit_found, hc, h3, hf, hp, h2, hg, hq, Ord.valid]
              · simp [i64v, Un.cells, unit_found, hc, h3, hf, hp, h2, hg, hq, Ord.valid]
            · simp [i64v, Un.cells, unit_found, hc, h3, hf, hp, h2, hg, Ord.valid]
          · simp [i64v, Un.cells, unit_found, hc, h3, hf, hp, h2, Ord.valid]
        · simp [i64v, Un.cells, unit_found, hc, h3, hf, hp, Ord.valid]
      · simp [i64v, Un.cells, unit_found, hc, h3, hf, Ord.valid]
  · simp [hcl, i64v, i64c, hc, Ord.valid]

theorem unit_pos {t : Tab} {id : Int} (h : found t.l id = true) : (t.unit id).1 = t.l[pos t.l id]'(found_lt h) := by
  have := found_lt h
  simp [Tab.unit, h, this]

end Go.Proofs.YtnkdkajllmopaaaGreat.TL

namespace Go.Proofs.YtnkdkajllmopaaaGreat.TL
open Go
set_option linter.unusedVariables false
set_option linter.unusedSimpArgs false

theorem i64_and255 (n : Int) : Go.bits .and .i64 n 255 = n % 256 := by
  have := Int.emod_nonneg n (show (18446744073709551616 : Int) ≠ 0 by decide)
  show IntKind.i64.wrap ((BitVec.ofInt 64 n &&& BitVec.ofInt 64 255).toNat : Int) = _
  rw [BitVec.toNat_and, BitVec.toNat_ofInt, show (BitVec.ofInt 64 255).toNat = 2 ^ 8 - 1 from rfl, Nat.and_two_pow_sub_one_eq_mod, IntKind.wrap_i64]
  omega
theorem i64_and65535 (n : Int) : Go.bits .and .i64 n 65535 = n % 65536 := by
  have := Int.emod_nonneg n (show (18446744073709551616 : Int) ≠ 0 by decide)
  show IntKind.i64.wrap ((BitVec.ofInt 64 n &&& BitVec.ofInt 64 65535).toNat : Int) = _
  rw [BitVec.toNat_and, BitVec.toNat_ofInt, show (BitVec.ofInt 64 65535).toNat = 2 ^ 16 - 1 from rfl, Nat.and_two_pow_sub_one_eq_mod, IntKind.wrap_i64]
  omega
theorem i64_and63 (n : Int) : Go.bits .and .i64 n 63 = n % 64 := by
  have := Int.emod_nonneg n (show (18446744073709551616 : Int) ≠ 0 by decide)
  show IntKind.i64.wrap ((BitVec.ofInt 64 n &&& BitVec.ofInt 64 63).toNat : Int) = _
  rw [BitVec.toNat_and, BitVec.toNat_ofInt, show (BitVec.ofInt 64 63).toNat = 2 ^ 6 - 1 from rfl, Nat.and_two_pow_sub_one_eq_mod, IntKind.wrap_i64]
  omega
theorem i64_and127 (n : Int) : Go.bits .and .i64 n 127 = n % 128 := by
  have := Int.emod_nonneg n (show (18446744073709551616 : Int) ≠ 0 by decide)
  show IntKind.i64.wrap ((BitVec.ofInt 64 n &&& BitVec.ofInt 64 127).toNat : Int) = _
  rw [BitVec.toNat_and, BitVec.toNat_ofInt, show (BitVec.ofInt 64 127).toNat = 2 ^ 7 - 1 from rfl, Nat.and_two_pow_sub_one_eq_mod, IntKind.wrap_i64]
  omega

def tk (o : Ord) : Int := 1 + o.k % 4
def tidy1 (o : Ord) : Ord :=
  if tk o = 2 then ⟨2, 1 + o.u % 64, 1 + o.a % 128, 0⟩
  else if tk o = 3 then ⟨3, 0, 1 + o.a % 128, o.b % 128⟩
  else if tk o = 4 then ⟨4, 1 + o.u % 64, 0, 0⟩
  else ⟨1, 1 + o.u % 64, 1 + o.a % 128, o.b % 128⟩
def tidy (l : List Ord) : List Ord := (l.take 8).map tidy1
theorem tidy_length (l : List Ord) : (tidy l).length = min 8 l.length := by simp [tidy]
theorem tidy1_chk (o : Ord) : (tidy1 o).chk = 0 := by
  have h1 := Int.emod_nonneg o.u (show (64 : Int) ≠ 0 by decide)
  have h2 := Int.emod_lt_of_pos o.u (show (0 : Int) < 64 by decide)
  have h3 := Int.emod_nonneg o.a (show (128 : Int) ≠ 0 by decide)
  have h4 := Int.emod_lt_of_pos o.a (show (0 : Int) < 128 by decide)
  have h5 := Int.emod_nonneg o.b (show (128 : Int) ≠ 0 by decide)
  have h6 := Int.emod_lt_of_pos o.b (show (0 : Int) < 128 by decide)
  unfold tidy1
  split
  · unfold Ord.chk far; simp; omega
  split
  · unfold Ord.chk far; simp; omega
  split
  · unfold Ord.chk far; simp; omega
  · unfold Ord.chk far; simp; omega
theorem tidy1_ok (o : Ord) : (tidy1 o).ok := by
  have h1 := Int.emod_nonneg o.u (show (64 : Int) ≠ 0 by decide)
  have h2 := Int.emod_lt_of_pos o.u (show (0 : Int) < 64 by decide)
  have h3 := Int.emod_nonneg o.a (show (128 : Int) ≠ 0 by decide)
  have h4 := Int.emod_lt_of_pos o.a (show (0 : Int) < 128 by decide)
  have h5 := Int.emod_nonneg o.b (show (128 : Int) ≠ 0 by decide)
  have h6 := Int.emod_lt_of_pos o.b (show (0 : Int) < 128 by decide)
  unfold tidy1 Ord.ok i64ok
  split
  · simp; omega
  split
  · simp; omega
  split
  · simp; omega
  · simp; omega

set_option maxHeartbeats 4000000 in
set_option maxRecDepth 100000 in
theorem Tidy_T (l : List Ord) : callT Tryz.prog 24 [.isl (rowC l) l.length] ⟨[], []⟩ (fun x h => x = .isl (rowC (tidy l)) (tidy l).length ∧ h = []) := by
  refine callT.mono (K := fun x h => ∃ u, x = .sl 1001 u 0 (tidy l).length ∧ h = [(1001, u, ⟨4, rowC (tidy l)⟩)]) ?_ fun x h hh => ?_
  · refine callT_of_body [0, 2, 3, 4, 5, 13, 41, 42, 45, 48] [1001] Tryz.func24 rfl (by decide) (by kernel_rfl) rfl ?_
    simp
    refine ⟨Nat × Nat, fun x => x.1 ≤ 8 ∧ x.1 ≤ l.length, fun x => ⟨[(0, .isl (rowC l) l.length), (3, .sl 1001 x.2 0 (tidy (l.take x.1)).length), (4, .v (.int .i64 x.1))], [(1001, x.2, ⟨4, rowC (tidy (l.take x.1))⟩)]⟩, fun x => 8 - x.1, ?_, ?_⟩
    · refine SLx.nil 3 1001 4 (by decide) (by simp) fun u => SLx.fin _ ⟨(0, u), by simp, rfl⟩ (by simp [tidy]) (by simp [tidy])
    rintro ⟨k, u⟩ ⟨hk, hkl⟩
    simp only at hk hkl ⊢
    by_cases g : k < l.length
    · by_cases g2 : k < 8
      · have hat := rowC_at g
        have hsn : tidy (l.take (k + 1)) = tidy (l.take k) ++ [tidy1 l[k]] := by
          unfold tidy
          rw [List.take_take, List.take_take, Nat.min_eq_right (by omega), Nat.min_eq_right (by omega), List.take_succ_eq_append_getElem g, List.map_append]
          rfl
        have hfl := tidy_length (l.take k)
        generalize tidy (l.take k) = F at hsn hfl ⊢
        have htk : List.take (F.length * 4) (rowC F) = rowC F := List.take_of_length_le (by simp)
        have hF : F.length ≤ 8 := by omega
        have g2' : (k : Int) < 8 := by omega
        have e1 : IntKind.i64.wrap ((k : Int) + 1) = ((k + 1 : Nat) : Int) := by rw [i64_id (by omega) (by omega)]; rfl
        have b1 := i64_and255 l[k].k
        have b2 := i64_and63 l[k].u
        have b3 := i64_and127 l[k].a
        have b4 := i64_and127 l[k].b
        have m0 : (l[k].k % 256).tmod 4 = (l[k].k % 256) % 4 := Int.tmod_eq_emod_of_nonneg (by omega)
        have m1 : IntKind.i64.wrap (l[k].k % 4) = l[k].k % 4 := i64_id (by omega) (by omega)
        have m2 : IntKind.i64.wrap (1 + l[k].k % 4) = tk l[k] := i64_id (by omega) (by omega)
        have m3 : IntKind.i64.wrap (1 + l[k].u % 64) = 1 + l[k].u % 64 := i64_id (by omega) (by omega)
        have m4 : IntKind.i64.wrap (1 + l[k].a % 128) = 1 + l[k].a % 128 := i64_id (by omega) (by omega)
        have hr : 1 ≤ tk l[k] ∧ tk l[k] ≤ 4 := by unfold tk; omega
        have hcs : tk l[k] = 1 ∨ tk l[k] = 2 ∨ tk l[k] = 3 ∨ tk l[k] = 4 := by omega
        rcases hcs with c1 | c1 | c1 | c1
        · have ht : tidy1 l[k] = ⟨1, 1 + l[k].u % 64, 1 + l[k].a % 128, l[k].b % 128⟩ := by simp [tidy1, c1]
          simp [g, g2, g2', hat, i64c, b1, b2, b3, b4, m0, m1, m2, m3, m4, c1]
          refine fun v5 v54 => ⟨by omega, by omega, fun u2 => ?_⟩
          exact SLx.again (k + 1, u2) ⟨by simp only; omega, by simp only; omega⟩ (by simp only; omega) (by simp [e1, hsn]) (by simp [hsn, htk, ht, Ord.cells, i64c])
        · have ht : tidy1 l[k] = ⟨2, 1 + l[k].u % 64, 1 + l[k].a % 128, 0⟩ := by simp [tidy1, c1]
          simp [g, g2, g2', hat, i64c, b1, b2, b3, b4, m0, m1, m2, m3, m4, c1]
          refine fun v5 v54 => ⟨by omega, by omega, fun u2 => ?_⟩
          exact SLx.again (k + 1, u2) ⟨by simp only; omega, by simp only; omega⟩ (by simp only; omega) (by simp [e1, hsn]) (by simp [hsn, htk, ht, Ord.cells, i64c])
        · have ht : tidy1 l[k] = ⟨3, 0, 1 + l[k].a % 128, l[k].b % 128⟩ := by simp [tidy1, c1]
          simp [g, g2, g2', hat, i64c, b1, b2, b3, b4, m0, m1, m2, m3, m4, c1]
          refine fun v5 v54 => ⟨by omega, by omega, fun u2 => ?_⟩
          exact SLx.again (k + 1, u2) ⟨by simp only; omega, by simp only; omega⟩ (by simp only; omega) (by simp [e1, hsn]) (by simp [hsn, htk, ht, Ord.cells, i64c])
        · have ht : tidy1 l[k] = ⟨4, 1 + l[k].u % 64, 0, 0⟩ := by simp [tidy1, c1]
          simp [g, g2, g2', hat, i64c, b1, b2, b3, b4, m0, m1, m2, m3, m4, c1]
          refine fun v5 v54 => ⟨by omega, by omega, fun u2 => ?_⟩
          exact SLx.again (k + 1, u2) ⟨by simp only; omega, by simp only; omega⟩ (by simp only; omega) (by simp [e1, hsn]) (by simp [hsn, htk, ht, Ord.cells, i64c])
      · have : ¬ (k : Int) < 8 := by omega
        have h8 : tidy (l.take k) = tidy l := by
          unfold tidy
          rw [List.take_take, Nat.min_eq_left (by omega)]
        simp [g, g2, this, h8]
    · have : k = l.length := by omega
      subst this
      simp
  · obtain ⟨u, rfl, rfl⟩ := hh
    refine VLx.frz 1001 rfl (VLx.done ?_)
    have htk : List.take ((tidy l).length * 4) (rowC (tidy l)) = rowC (tidy l) := List.take_of_length_le (by simp)
    simp [htk]

theorem OfI_T (u : Nat) (l : List Ord) (hl : l.length ≤ 1000000) : callT Tryz.prog 50 [.sl 1000 u 0 l.length] ⟨[], [(1000, u, ⟨4, rowC l⟩)]⟩
    (fun r h => r = .isl (rowC (l.take 8)) (l.take 8).length ∧ h = [(1000, u, ⟨4, rowC l⟩)]) := by
  refine callT.mono (Of_T u l hl) fun r h hh => ?_
  obtain ⟨u', rfl, rfl⟩ := hh
  refine VLx.frz 8 rfl (VLx.done ?_)
  have e : List.take ((l.take 8).length * 4) (rowC (l.take 8)) = rowC (l.take 8) := by rw [rowC_take, List.take_of_length_le (Nat.le_refl _)]
  simp only [List.length_take] at e
  simp [e]
end Go.Proofs.YtnkdkajllmopaaaGreat.TL

