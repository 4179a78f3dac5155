/- A beginning of a letter's bytes is no letter; nothing may follow a letter: plain laws. -/
import Derived.Test.YtkggjmoghpmelaaULetR
namespace Go.Proofs.Ytkggjmoghpmelaa.TL
open Go
set_option linter.unusedVariables false
set_option linter.unusedSimpArgs false

/-- What more bytes behind do to a reader: if it came to no error, nothing but that they are left; if it came to an error, it was the end's, or the error stays. An error that is there stays. -/
structure Sim {α : Type} (A : In → In × α) : Prop where
  stk : ∀ i, i.e ≠ 0 → (A i).1.e = i.e
  ok : ∀ l q, (A ⟨l, 0⟩).1.e = 0 → A ⟨l ++ q, 0⟩ = (⟨(A ⟨l, 0⟩).1.l ++ q, 0⟩, (A ⟨l, 0⟩).2)
  no : ∀ l q, (A ⟨l, 0⟩).1.e ≠ 0 → (A ⟨l, 0⟩).1.e = 1 ∨ (A ⟨l ++ q, 0⟩).1.e = (A ⟨l, 0⟩).1.e

theorem In.eta0 {i : In} (h : i.e = 0) : i = ⟨i.l, 0⟩ := by cases i; simp at h; subst h; rfl
section
variable {α β : Type}
theorem Sim.bind {A : In → In × α} {B : α → In → In × β} (ha : Sim A) (hb : ∀ v, Sim (B v)) : Sim fun i => B (A i).2 (A i).1 := by
  refine ⟨fun i h => ?_, fun l q h => ?_, fun l q h => ?_⟩
  · show (B (A i).2 (A i).1).1.e = i.e
    have h1 := ha.stk i h
    rw [(hb _).stk _ (by rw [h1]; exact h), h1]
  · have h0 : (A ⟨l, 0⟩).1.e = 0 := by
      by_cases hh : (A ⟨l, 0⟩).1.e = 0
      · exact hh
      · rw [(hb _).stk _ hh] at h; exact absurd h hh
    rw [ha.ok l q h0]
    have := (hb (A ⟨l, 0⟩).2).ok (A ⟨l, 0⟩).1.l q
    rw [← In.eta0 h0] at this
    exact this h
  · by_cases h0 : (A ⟨l, 0⟩).1.e = 0
    · rw [ha.ok l q h0]
      have := (hb (A ⟨l, 0⟩).2).no (A ⟨l, 0⟩).1.l q
      rw [← In.eta0 h0] at this
      exact this h
    · have h1 := (hb (A ⟨l, 0⟩).2).stk _ h0
      rw [h1]
      rcases ha.no l q h0 with h2 | h2
      · exact .inl h2
      · refine .inr ?_
        rw [(hb _).stk _ (by rw [h2]; exact h0), h2]
theorem Sim.pure (v : α) : Sim fun i => (i, v) := ⟨fun _ _ => rfl, fun _ _ _ => rfl, fun _ _ h => absurd rfl h⟩
theorem Sim.map {A : In → In × α} (f : α → β) (ha : Sim A) : Sim fun i => ((A i).1, f (A i).2) := ha.bind (B := fun v i => (i, f v)) fun v => Sim.pure _
theorem Sim.fail (x : Int) : Sim fun i => (i.fail x, ()) := by
  refine ⟨fun i h => ?_, fun l q h => ?_, fun l q h => ?_⟩
  · simp only [In.fail]; rw [if_neg (by simp [h])]
  · simp only [In.fail] at h ⊢
    by_cases hx : x = 0
    · simp [hx]
    · simp [hx] at h
  · simp only [In.fail] at h ⊢
    by_cases hx : x = 0
    · simp [hx] at h
    · simp [hx]
/-- At an error nothing is given. -/
theorem Sim.guard {A : In → In × α} (z : β) (f : α → β) (ha : Sim A) : Sim fun i => if (A i).1.e ≠ 0 then ((A i).1, z) else ((A i).1, f (A i).2) := by
  have e1 : ∀ i, (if (A i).1.e ≠ 0 then ((A i).1, z) else ((A i).1, f (A i).2)).1 = (A i).1 := fun i => by split <;> rfl
  refine ⟨fun i h => ?_, fun l q h => ?_, fun l q h => ?_⟩
  · simp only [e1]; exact ha.stk i h
  · simp only [e1] at h ⊢
    rw [ha.ok l q h]
    simp [h]
  · simp only [e1] at h ⊢
    exact ha.no l q h
theorem numL_sim : ∀ (l q : List UInt8) (k a : Nat), ((numL l k a).1.e = 0 → numL (l ++ q) k a = (⟨(numL l k a).1.l ++ q, 0⟩, (numL l k a).2)) ∧ ((numL l k a).1.e ≠ 0 → (numL l k a).1.e = 1 ∨ (numL (l ++ q) k a).1.e = (numL l k a).1.e)
  | [], q, k, a => ⟨fun h => by simp [numL] at h, fun _ => .inl rfl⟩
  | c :: l, q, k, a => by
    simp only [List.cons_append, numL]
    by_cases h1 : c.toNat = 0 ∧ 0 < k ∨ k = 9 ∧ 1 < c.toNat
    · simp only [if_pos h1]
      exact ⟨fun h => by simp at h, fun _ => by simp⟩
    · simp only [if_neg h1]
      by_cases h2 : c.toNat < 128
      · simp only [if_pos h2]
        exact ⟨fun _ => by simp, fun h => by simp at h⟩
      · simp only [if_neg h2]
        exact numL_sim l q _ _
theorem Sim.num : Sim In.num := by
  refine ⟨fun i h => ?_, fun l q h => ?_, fun l q h => ?_⟩
  · simp only [In.num]; rw [if_pos h]
  · simp only [In.num, ne_eq, not_true_eq_false, if_false] at h ⊢
    exact (numL_sim l q 0 0).1 h
  · simp only [In.num, ne_eq, not_true_eq_false, if_false] at h ⊢
    exact (numL_sim l q 0 0).2 h
theorem count_bind (m : Int) : (fun i : In => i.count m) = fun i => (fun (v : Nat) (j : In) => if max m 0 < (v : Int) then (j.fail 3, (0 : Int)) else (j, (v : Int))) i.num.2 i.num.1 := rfl
theorem Sim.count (m : Int) : Sim fun i => i.count m := by
  rw [count_bind]
  refine Sim.num.bind (B := fun (v : Nat) (j : In) => if max m 0 < (v : Int) then (j.fail 3, (0 : Int)) else (j, (v : Int))) fun v => ?_
  by_cases h : max m 0 < (v : Int)
  · simp only [if_pos h]; exact (Sim.fail 3).map fun _ => (0 : Int)
  · simp only [if_neg h]; exact Sim.pure _
theorem Sim.int : Sim In.int := Sim.num.map unzig
theorem Sim.raw (n : Int) : Sim fun i => i.raw n := by
  refine ⟨fun i h => ?_, fun l q h => ?_, fun l q h => ?_⟩
  · simp only [In.raw]; rw [if_pos (.inl h)]
  · simp only [In.raw] at h ⊢
    by_cases h1 : n ≤ 0
    · simp [h1]
    · simp only [ne_eq, not_true_eq_false, false_or, if_neg h1] at h ⊢
      by_cases h2 : (l.length : Int) < n
      · simp [h2] at h
      · have h3 : ¬ ((l ++ q).length : Int) < n := by simp only [List.length_append]; omega
        have h4 : n.toNat ≤ l.length := by omega
        simp only [if_neg h2, if_neg h3]
        rw [List.drop_append_of_le_length h4, List.take_append_of_le_length h4]
  · simp only [In.raw] at h ⊢
    by_cases h1 : n ≤ 0
    · simp [h1] at h
    · simp only [ne_eq, not_true_eq_false, false_or, if_neg h1] at h ⊢
      by_cases h2 : (l.length : Int) < n
      · simp [h2]
      · simp [h2] at h
theorem Sim.str (m : Int) : Sim fun i => i.str m := (Sim.count m).bind (B := fun v i => i.raw v) fun v => Sim.raw v
/-- One behind the other, as long as there is no error. -/
theorem Sim.many {R : In → In × α} (hR : Sim R) (F : Nat → In → List α → In × List α) (f0 : ∀ i l, F 0 i l = (i, l)) (f1 : ∀ n i l, F (n + 1) i l = if i.e ≠ 0 then (i, l) else F n (R i).1 (l ++ [(R i).2])) : ∀ (n : Nat) (l : List α), Sim fun i => F n i l
  | 0, l => by simp only [f0]; exact Sim.pure _
  | n + 1, l => by
    have hn := fun v => Sim.many hR F f0 f1 n (l ++ [v])
    have hb := hR.bind (B := fun v i => F n i (l ++ [v])) hn
    refine ⟨fun i h => ?_, fun b q h => ?_, fun b q h => ?_⟩
    · simp only [f1]; rw [if_pos h]
    · simp only [f1, ne_eq, not_true_eq_false, if_false] at h ⊢
      exact hb.ok b q h
    · simp only [f1, ne_eq, not_true_eq_false, if_false] at h ⊢
      exact hb.no b q h
theorem Sim.ord : Sim In.ord :=
  (Sim.count 4).bind (B := fun k i => let c2 := i.count 1099511627776; let c3 := c2.1.int; let c4 := c3.1.int; let o : Ord := ⟨k, c2.2, c3.2, c4.2⟩; (c4.1.fail o.chk, o)) fun k =>
  (Sim.count 1099511627776).bind (B := fun u i => let c3 := i.int; let c4 := c3.1.int; let o : Ord := ⟨k, u, c3.2, c4.2⟩; (c4.1.fail o.chk, o)) fun u =>
  Sim.int.bind (B := fun a i => let c4 := i.int; let o : Ord := ⟨k, u, a, c4.2⟩; (c4.1.fail o.chk, o)) fun a =>
  Sim.int.bind (B := fun b i => let o : Ord := ⟨k, u, a, b⟩; (i.fail o.chk, o)) fun b => (Sim.fail _).map fun _ => (⟨k, u, a, b⟩ : Ord)
theorem Sim.ords (n : Nat) (l : List Ord) : Sim fun i => In.ords n i l := Sim.ord.many In.ords (fun _ _ => rfl) (fun _ _ _ => rfl) n l
theorem pair_if {c : Prop} [Decidable c] {i : In} {x y : α} : (i, if c then x else y) = if c then (i, x) else (i, y) := by split <;> rfl
theorem Sim.batch : Sim In.batch := by
  have := Sim.guard ([] : List Ord) id ((Sim.count 8).bind (B := fun n i => In.ords n.toNat i []) fun n => Sim.ords _ _)
  unfold In.batch
  simp only [pair_if]
  exact this
theorem Sim.vot (n : Nat) (l : List Int) : Sim fun i => In.vot n i l := (Sim.count 31).many In.vot (fun _ _ => rfl) (fun _ _ _ => rfl) n l
theorem Sim.chg : Sim In.chg := by
  have := Sim.guard (⟨0, 0, []⟩ : Chg) id ((Sim.count 3).bind (B := fun k i => let p := i.count 31; let n := p.1.count 32; let q := In.vot n.2.toNat n.1 []; (q.1, (⟨k, p.2, q.2⟩ : Chg))) fun k =>
    (Sim.count 31).bind (B := fun p i => let n := i.count 32; let q := In.vot n.2.toNat n.1 []; (q.1, (⟨k, p, q.2⟩ : Chg))) fun p =>
    (Sim.count 32).bind (B := fun n i => let q := In.vot n.toNat i []; (q.1, (⟨k, p, q.2⟩ : Chg))) fun n => (Sim.vot n.toNat []).map fun l => (⟨k, p, l⟩ : Chg))
  exact this
theorem Sim.chgs (n : Nat) (l : List Chg) : Sim fun i => In.chgs n i l := Sim.chg.many In.chgs (fun _ _ => rfl) (fun _ _ _ => rfl) n l
theorem Sim.ply : Sim In.ply := (Sim.count 31).bind (B := fun k i => (i.batch.1, (⟨k, i.batch.2⟩ : Ply))) fun k => Sim.batch.map fun b => (⟨k, b⟩ : Ply)
theorem Sim.plys (n : Nat) (l : List Ply) : Sim fun i => In.plys n i l := Sim.ply.many In.plys (fun _ _ => rfl) (fun _ _ _ => rfl) n l
def rc6 (t : Int) (c : List Chg) (pt pd : Int) (m : Int) (i : In) : In × Rec := ((In.plys m.toNat i []).1, ⟨t, c, pt, pd, (In.plys m.toNat i []).2⟩)
def rc5 (t : Int) (c : List Chg) (pt pd : Int) (i : In) : In × Rec := rc6 t c pt pd (i.count 32).2 (i.count 32).1
def rc4 (t : Int) (c : List Chg) (pt : Int) (i : In) : In × Rec := rc5 t c pt (i.count 6).2 (i.count 6).1
def rc3 (t : Int) (c : List Chg) (i : In) : In × Rec := rc4 t c (i.count 64).2 (i.count 64).1
def rc2 (t n : Int) (i : In) : In × Rec := rc3 t (In.chgs n.toNat i []).2 (In.chgs n.toNat i []).1
def rc1 (t : Int) (i : In) : In × Rec := rc2 t (i.count 8).2 (i.count 8).1
theorem Sim.rc6 (t : Int) (c : List Chg) (pt pd m : Int) : Sim (rc6 t c pt pd m) := (Sim.plys m.toNat []).map fun l => (⟨t, c, pt, pd, l⟩ : Rec)
theorem Sim.rc5 (t : Int) (c : List Chg) (pt pd : Int) : Sim (rc5 t c pt pd) := (Sim.count 32).bind fun m => Sim.rc6 t c pt pd m
theorem Sim.rc4 (t : Int) (c : List Chg) (pt : Int) : Sim (rc4 t c pt) := (Sim.count 6).bind fun m => Sim.rc5 t c pt m
theorem Sim.rc3 (t : Int) (c : List Chg) : Sim (rc3 t c) := (Sim.count 64).bind fun m => Sim.rc4 t c m
theorem Sim.rc2 (t n : Int) : Sim (rc2 t n) := (Sim.chgs n.toNat []).bind fun m => Sim.rc3 t m
theorem Sim.rc1 (t : Int) : Sim (rc1 t) := (Sim.count 8).bind fun m => Sim.rc2 t m
theorem rcd_rc (i : In) : i.rcd = if (rc1 (i.count 1099511627776).2 (i.count 1099511627776).1).1.e ≠ 0 then ((rc1 (i.count 1099511627776).2 (i.count 1099511627776).1).1, ⟨0, [], 0, 0, []⟩) else ((rc1 (i.count 1099511627776).2 (i.count 1099511627776).1).1, id (rc1 (i.count 1099511627776).2 (i.count 1099511627776).1).2) := by
  unfold In.rcd
  simp only [rc1, rc2, rc3, rc4, rc5, rc6, id]
  exact ite_congr rfl (fun _ => rfl) (fun _ => rfl)
theorem Sim.rcd : Sim In.rcd := by
  rw [show In.rcd = _ from funext rcd_rc]
  exact Sim.guard _ id ((Sim.count 1099511627776).bind fun m => Sim.rc1 m)
theorem fail_ne {i : In} {x : Int} (h : i.e ≠ 0) : i.fail x = i := by unfold In.fail; rw [if_neg (by simp [h])]
theorem if_fail {i : In} {x : Int} : (if i.e = 0 then i.fail x else i) = i.fail x := by
  split
  · rfl
  · rename_i h; rw [fail_ne h]
set_option maxHeartbeats 1000000 in
theorem Sim.pcs : Sim In.pcs := by
  have := Sim.guard (⟨0, 0, 0, 0, []⟩ : Pcs) id ((Sim.count 1099511627776).bind (B := fun t i => let b := i.count 65536; let h := b.1.num; let n := h.1.count 65536; let s := n.1.str 100; let p : Pcs := ⟨t, b.2, h.2, n.2, s.2⟩; (s.1.fail p.chk, p)) fun t =>
    (Sim.count 65536).bind (B := fun b i => let h := i.num; let n := h.1.count 65536; let s := n.1.str 100; let p : Pcs := ⟨t, b, h.2, n.2, s.2⟩; (s.1.fail p.chk, p)) fun b =>
    Sim.num.bind (B := fun h i => let n := i.count 65536; let s := n.1.str 100; let p : Pcs := ⟨t, b, h, n.2, s.2⟩; (s.1.fail p.chk, p)) fun h =>
    (Sim.count 65536).bind (B := fun n i => let s := i.str 100; let p : Pcs := ⟨t, b, h, n, s.2⟩; (s.1.fail p.chk, p)) fun n =>
    (Sim.str 100).bind (B := fun s i => let p : Pcs := ⟨t, b, h, n, s⟩; (i.fail p.chk, p)) fun s => (Sim.fail _).map fun _ => (⟨t, b, h, n, s⟩ : Pcs))
  unfold In.pcs
  simp only [if_fail]
  exact this
theorem Sim.lt (k : Int) : Sim fun i => In.lt k i := by
  unfold In.lt
  split
  · exact (Sim.count _).bind (B := fun t i => (i.batch.1, some (Let.give t i.batch.2))) fun t => Sim.batch.map fun b => some (Let.give t b)
  split
  · exact (Sim.count _).bind (B := fun t i => ((i.count 1).1, some (Let.vote t (decide ((i.count 1).2 = 1))))) fun t => (Sim.count 1).map fun b => some (Let.vote t (decide (b = 1)))
  split
  · exact Sim.pure _
  split
  · exact (Sim.count _).bind (B := fun t i => (i.num.1, some (Let.hash t i.num.2))) fun t => Sim.num.map fun b => some (Let.hash t b)
  split
  · exact Sim.pure _
  split
  · exact (Sim.count _).map fun t => some (Let.ready t)
  split
  · exact Sim.rcd.map fun t => some (Let.turn t)
  split
  · exact (Sim.count _).map fun t => some (Let.ask t)
  split
  · exact (Sim.count _).map fun t => some (Let.welc t)
  split
  · exact Sim.pcs.map fun t => some (Let.piece t)
  · exact (Sim.fail 7).map fun _ => (none : Option Let)
theorem Sim.let : Sim fun i => In.lt (i.count 10).2 (i.count 10).1 := (Sim.count 10).bind (B := fun k i => In.lt k i) fun k => Sim.lt k
theorem lets_nb (rest : List UInt8) {x : Let} (h : x.wf) : In.lt ((In.mk (x.bytes ++ rest) 0).count 10).2 ((In.mk (x.bytes ++ rest) 0).count 10).1 = (⟨rest, 0⟩, some x) := by
  have hk := kind_le x
  have k1 := In.count_nb (x.body ++ rest) (n := x.kind) (m := 10) (by decide) (by omega)
  unfold Let.bytes
  rw [List.append_assoc, k1]
  exact let_nb rest h
/-- Nothing may follow. -/
theorem letparse_more {x : Let} (h : x.wf) (c : UInt8) : letParse (x.bytes ++ [c]) = (none, 2) := by
  have hk := kind_le x
  have k1 := In.count_nb (x.body ++ [c]) (n := x.kind) (m := 10) (by decide) (by omega)
  have k2 := lets_nb [c] h
  have k3 : (In.mk (x.bytes ++ [c]) 0).count 10 = ((⟨x.body ++ [c], 0⟩ : In), (x.kind : Int)) := by unfold Let.bytes; rw [List.append_assoc, k1]
  unfold letParse
  rw [k2, k3]
  simp [In.fin, In.fail]
/-- A beginning of a letter is none. -/
theorem letparse_less {x : Let} (h : x.wf) {n : Nat} (hn : n < x.bytes.length) : letParse (x.bytes.take n) = (none, 1) := by
  have k2 := lets_nb [] h
  rw [List.append_nil] at k2
  have hs := Sim.let
  have hne : x.bytes.drop n ≠ [] := fun hh => by have := congrArg List.length hh; simp at this; omega
  have e0 : x.bytes.take n ++ x.bytes.drop n = x.bytes := List.take_append_drop n _
  have herr : (In.lt ((In.mk (x.bytes.take n) 0).count 10).2 ((In.mk (x.bytes.take n) 0).count 10).1).1.e = 1 := by
    by_cases h0 : (In.lt ((In.mk (x.bytes.take n) 0).count 10).2 ((In.mk (x.bytes.take n) 0).count 10).1).1.e = 0
    · have := hs.ok (x.bytes.take n) (x.bytes.drop n) h0
      simp only [e0, k2] at this
      have := congrArg (fun p => p.1.l) this
      simp at this
      exact absurd this.2 (by simpa using hn)
    · rcases hs.no (x.bytes.take n) (x.bytes.drop n) h0 with h1 | h1
      · exact h1
      · simp only [e0, k2] at h1
        exact absurd h1.symm h0
  unfold letParse
  by_cases hc : ((In.mk (x.bytes.take n) 0).count 10).1.e = 0
  · have hf : (In.lt ((In.mk (x.bytes.take n) 0).count 10).2 ((In.mk (x.bytes.take n) 0).count 10).1).1.fin.e = 1 := by
      unfold In.fin
      split
      · rw [fail_ne (by rw [herr]; decide), herr]
      · exact herr
    simp [hc, hf]
  · have : ((In.mk (x.bytes.take n) 0).count 10).1.e = 1 := by
      have := (Sim.lt ((In.mk (x.bytes.take n) 0).count 10).2).stk _ hc
      rw [← this]; exact herr
    simp [this]
end
end Go.Proofs.Ytkggjmoghpmelaa.TL
