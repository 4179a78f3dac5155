/- Batches of orders: their bytes. -/
import Derived.Test.YtkggjmoghpmelaaUOrd
import Derived.Test.YtkggjmoghpmelaaUOut
namespace Go.Proofs.Ytkggjmoghpmelaa.TL
open Go
set_option linter.unusedVariables false
set_option linter.unusedSimpArgs false

def i64ok (n : Int) : Prop := -9223372036854775808 ≤ n ∧ n ≤ 9223372036854775807
def Ord.ok (o : Ord) : Prop := i64ok o.k ∧ i64ok o.u ∧ i64ok o.a ∧ i64ok o.b
def Ord.ob (o : Ord) : List UInt8 := nb o.k.toNat ++ (nb (IntKind.u64.wrap o.u).toNat ++ (nb (zig o.a) ++ nb (zig o.b)))
def obs (l : List Ord) : List UInt8 := (l.map Ord.ob).flatten
def batchB (l : List Ord) : List UInt8 := nb l.length ++ obs l

@[simp] theorem rowC_nil : rowC [] = [] := rfl
@[simp] theorem rowC_cons (o : Ord) (l : List Ord) : rowC (o :: l) = o.cells ++ rowC l := rfl
@[simp] theorem rowC_append (l l' : List Ord) : rowC (l ++ l') = rowC l ++ rowC l' := by simp [rowC]
@[simp] theorem rowC_length : ∀ l : List Ord, (rowC l).length = l.length * 4
  | [] => rfl
  | o :: l => by simp [rowC_length l, Ord.cells]; omega
theorem rowC_drop : ∀ (n : Nat) (l : List Ord), (rowC l).drop (n * 4) = rowC (l.drop n)
  | 0, l => by simp
  | n + 1, [] => by simp
  | n + 1, o :: l => by
    have := rowC_drop n l
    rw [show (n + 1) * 4 = 4 + n * 4 by omega, ← List.drop_drop]
    simpa [Ord.cells] using this
theorem rowC_take : ∀ (n : Nat) (l : List Ord), (rowC l).take (n * 4) = rowC (l.take n)
  | 0, l => by simp
  | n + 1, [] => by simp
  | n + 1, o :: l => by
    have := rowC_take n l
    rw [show (n + 1) * 4 = n * 4 + 4 by omega]
    simpa [Ord.cells] using this
theorem ob_len {o : Ord} (h : o.ok) : o.ob.length ≤ 40 := by
  obtain ⟨h1, h2, h3, h4⟩ := h
  unfold i64ok at h1 h2 h3 h4
  have e1 := nb_len10 (n := o.k.toNat) (by omega)
  have e2 := nb_len10 (n := (IntKind.u64.wrap o.u).toNat) (by rw [IntKind.wrap_u64]; omega)
  have e3 := nb_len10 (zig_lt h3.1 h3.2)
  have e4 := nb_len10 (zig_lt h4.1 h4.2)
  simp only [Ord.ob, List.length_append]
  omega
theorem obs_len : ∀ {l : List Ord}, (∀ o ∈ l, o.ok) → (obs l).length ≤ 40 * l.length
  | [], _ => by simp [obs]
  | o :: l, h => by
    have h1 := ob_len (h o List.mem_cons_self)
    have h2 := obs_len (l := l) fun m hm => h m (List.mem_cons_of_mem _ hm)
    simp only [obs, List.map_cons, List.flatten_cons, List.length_append, List.length_cons] at h2 ⊢
    omega

theorem rowC_at {l : List Ord} {k : Nat} (h : k < l.length) : List.drop (k * 4) (rowC l) = i64c l[k].k :: i64c l[k].u :: i64c l[k].a :: i64c l[k].b :: rowC (l.drop (k + 1)) := by
  rw [rowC_drop, List.drop_eq_getElem_cons h]; rfl
theorem obs_snoc (l : List Ord) (o : Ord) : obs (l ++ [o]) = obs l ++ o.ob := by simp [obs]

set_option maxRecDepth 100000 in
theorem Put_T (v u : Nat) (w : List UInt8) (l : List Ord) (hok : ∀ o ∈ l, o.ok) (hl : w.length + 60 * l.length ≤ 100000000000) :
    callT Try.prog 23 [.isl (rowC l) l.length, .at 1000 v 0] ⟨[], outH v u w⟩ (fun r h => ∃ u', r = .tup [] ∧ h = outH v u' (w ++ batchB l)) := by
  refine callT_of_body [0, 1, 5, 11, 12, 13, 14] [1000, 1001] Try.func23 rfl (by decide) (by kernel_rfl) rfl ?_
  simp
  intro v9
  have hc := OutCount_T v u w [(l.length : Int)] (by simp; omega) (by simp; omega)
  refine callT.pre (fn_of hc) (CLx.frz 9 rfl (CLx.done ?_))
  simp
  refine callT_ex [(1000, 1000), (1001, 1001)] hc ?_
  simp [i64c]
  intro u1
  refine loopT_of (Nat × Nat) (fun x => x.1 ≤ l.length) (fun x => ⟨[(1, .at 1000 v 0), (11, .isl (rowC l) l.length), (12, .v (.int .i64 l.length)), (13, .v (.int .i64 x.1))], outH v x.2 ((w ++ nb l.length) ++ obs (l.take x.1))⟩) (fun x => l.length - x.1) (0, u1) (by simp) (by simp) (by simp [obs]) ?_
  rintro ⟨k, u2⟩ hk
  simp only at hk ⊢
  by_cases h1 : k < l.length
  · simp [rowC_at h1, i64c, h1]
    intro v5
    generalize hw1 : w ++ nb l.length ++ obs (List.take k l) = w1
    refine draw_chain (fun x : Nat × List UInt8 => [(1000, v, outB x.1 x.2.length), (1001, x.1, ⟨1, x.2.map bv⟩), (5, v5, ⟨0, [i64c l[k].k, i64c l[k].u, i64c l[k].a, i64c l[k].b]⟩)]) (fun x => x.2 = w1) (u2, w1) rfl (by simp [← hw1, i64c]) (by kernel_rfl) (by kernel_rfl) (by kernel_rfl) (by kernel_rfl) ?_
    simp [i64c]
    have ho := hok l[k] (List.getElem_mem h1)
    have hko : (obs (List.take k l)).length ≤ 40 * (List.take k l).length := obs_len fun o h => hok o (List.mem_of_mem_take h)
    have hn10 := nb_len10 (n := l.length) (by omega)
    have hlen := congrArg List.length hw1
    simp only [List.length_append, List.length_take] at hlen hko
    obtain ⟨hk1, hk2, hk3, hk4⟩ := ho
    unfold i64ok at hk1 hk2 hk3 hk4
    refine ⟨.at 1000 v 0, fun x => x.2 = w1 ++ nb l[k].k.toNat, fun u3 => ?_, sameL_go ?_⟩
    · refine callT_ex [(1000, 1000), (1001, 1001)] (OutCount_T v u3 w1 [l[k].k] (by simp; omega) (by simp; omega)) ?_
      simp [i64c]
    · simp [i64c]
      have hu : ((IntKind.u64.wrap l[k].u).toNat : Int) = IntKind.u64.wrap l[k].u := by rw [IntKind.wrap_u64]; omega
      have n1 := nb_len10 (n := l[k].k.toNat) (by omega)
      have n2 := nb_len10 (n := (IntKind.u64.wrap l[k].u).toNat) (by rw [IntKind.wrap_u64]; omega)
      refine ⟨.at 1000 v 0, fun x => x.2 = w1 ++ nb l[k].k.toNat ++ nb (IntKind.u64.wrap l[k].u).toNat, fun u3 => ?_, sameL_go ?_⟩
      · refine callT_ex [(1000, 1000), (1001, 1001)] (OutNum_T v u3 (w1 ++ nb l[k].k.toNat) [(IntKind.u64.wrap l[k].u).toNat] (by simp; rw [IntKind.wrap_u64]; omega) (by simp; omega)) ?_
        simp [u64c, hu]
      · simp [i64c]
        refine ⟨.at 1000 v 0, fun x => x.2 = w1 ++ l[k].ob, fun u3 => ?_, sameL_go ?_⟩
        · refine callT_ex [(1000, 1000), (1001, 1001)] (OutInt_T v u3 (w1 ++ nb l[k].k.toNat ++ nb (IntKind.u64.wrap l[k].u).toNat) [l[k].a, l[k].b] (by simp; omega) (by simp; omega)) ?_
          simp [i64c, Ord.ob, nbs]
        · simp [i64c]
          intro u3
          have e4 : IntKind.i64.wrap ((k : Int) + 1) = ((k + 1 : Nat) : Int) := by rw [i64_id (by omega) (by omega)]; rfl
          have e5 : w ++ nb l.length ++ obs (List.take (k + 1) l) = w1 ++ l[k].ob := by rw [List.take_succ_eq_append_getElem h1, obs_snoc, ← hw1]; simp
          refine SLx.again (k + 1, u3) (by simp only; omega) (by simp only; omega) (by simp [e4]) ?_
          have e6 := congrArg (List.map bv) e5
          have e7 := congrArg List.length e5
          simp at e6 e7 ⊢
          exact ⟨by omega, e6.symm⟩
  · have e1 : k = l.length := by omega
    subst e1
    simp [batchB]

theorem rowC_clo (l : List Ord) : CloL (rowC l) ∧ AllC (rowC l) := by
  induction l with
  | nil => simp
  | cons o l ih => simp [Ord.cells, i64c, ih.1, ih.2]
@[simp] theorem rowC_CloL (l : List Ord) : CloL (rowC l) := (rowC_clo l).1
@[simp] theorem rowC_AllC (l : List Ord) : AllC (rowC l) := (rowC_clo l).2

end Go.Proofs.Ytkggjmoghpmelaa.TL
