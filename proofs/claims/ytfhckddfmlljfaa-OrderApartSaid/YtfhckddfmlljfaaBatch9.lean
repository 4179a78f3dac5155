/- A tidy batch's bytes, read again: whole, cut short, with one byte more. -/
import Derived.Test.YtfhckddfmlljfaaRead9
namespace Go.Proofs.Ytfhckddfmlljfaa.QOrderApart
open Go.Proofs.Ytfhckddfmlljfaa Go.RowKit Go.Proofs.YtfhckddfmlljfaaW.PrintWords Go.Proofs.YtfhckddfmlljfaaW.PrintLast Go.Proofs.YtfhckddfmlljfaaW.PrintMore
set_option linter.unusedVariables false
set_option linter.unusedSimpArgs false

/-- An order that Tidy may give. -/
def T (x : S44) : Prop := (1 ≤ x.f0 ∧ x.f0 ≤ 4) ∧ (0 ≤ x.f1 ∧ x.f1 ≤ 64) ∧ (0 ≤ x.f2 ∧ x.f2 ≤ 128) ∧ (0 ≤ x.f3 ∧ x.f3 ≤ 127) ∧ (x.f0 = 3 ↔ x.f1 = 0) ∧ (x.f0 = 4 → x.f2 = 0 ∧ x.f3 = 0) ∧ (x.f0 = 2 → 1 ≤ x.f2 ∧ x.f3 = 0)
theorem cb_in {n : Int} (h : 0 ≤ n) : cb n = nb n := by unfold cb; rw [if_neg (by omega)]
theorem ob_is {x : S44} (h : T x) : ob (ordOf x) = nb x.f0 ++ (nb x.f1 ++ (ib x.f2 ++ ib x.f3)) := by
  obtain ⟨h0, h1, _⟩ := h
  have e : IntKind.u64.wrap x.f1 = x.f1 := by rw [IntKind.wrap_u64]; omega
  simp only [ob, ordOf, cbs, nbs, ibs, List.flatMap_cons, List.flatMap_nil, List.append_nil, e, cb_in (show 0 ≤ x.f0 by omega), List.append_assoc]
theorem obs_cons {x : S44} (h : T x) (os : List S44) : obs ((x :: os).map ordOf) = nb x.f0 ++ (nb x.f1 ++ (ib x.f2 ++ (ib x.f3 ++ obs (os.map ordOf)))) := by
  have e : obs ((x :: os).map ordOf) = ob (ordOf x) ++ obs (os.map ordOf) := by simp [obs]
  rw [e, ob_is h]; simp only [List.append_assoc]
theorem far_is (a : Int) : order_far.f a = some (decide (a < -1000 ∨ a > 1000)) := by
  unfold order_far.f
  by_cases h : a < -1000
  · rw [if_pos h]; simp [h]
  · rw [if_neg h]; simp [h]
theorem check_ok (k : Nat) {x : S44} (h : T x) : order_Order_Check.f (k + 6) x.f0 x.f1 x.f2 x.f3 = some 0 := by
  obtain ⟨x0, x1, x2, x3⟩ := x
  obtain ⟨h0, h1, h2, h3, h4, h5, h6⟩ := h
  simp only at *
  have f2 : (decide (x2 < -1000 ∨ x2 > 1000)) = false := by simp; omega
  have f3 : (decide (x3 < -1000 ∨ x3 > 1000)) = false := by simp; omega
  simp only [order_Order_Check.f, order_Order_Check.j0, order_Order_Check.j1, order_Order_Check.j2, order_Order_Check.j3, order_Order_Check.j4, far_is, f2, f3, Option.bind_some]
  have d0 : decide (x0 > 4) = false := by simp; omega
  rw [if_neg (by omega), d0, if_neg (by decide), if_neg (by omega), if_neg (by omega)]
  rcases (by omega : x0 = 1 ∨ x0 = 2 ∨ x0 = 3 ∨ x0 = 4) with rfl | rfl | rfl | rfl
  · have e : (((1 : Int) == 3) != (x1 == 0)) = false := by
      have : (x1 == 0) = false := by rw [beq_eq_false_iff_ne]; omega
      rw [this]; rfl
    rw [e]; simp
  · have e : (((2 : Int) == 3) != (x1 == 0)) = false := by
      have : (x1 == 0) = false := by rw [beq_eq_false_iff_ne]; omega
      rw [this]; rfl
    have e3 : (x3 != 0) = false := by have := (h6 rfl).2; simp [this]
    rw [e, if_neg (by decide), if_neg (by decide), if_neg (by decide), if_pos rfl, if_neg (by omega), if_neg (by omega), e3]; simp
  · have e : (((3 : Int) == 3) != (x1 == 0)) = false := by
      have : x1 = 0 := h4.1 rfl
      rw [this]; rfl
    rw [e, if_neg (by decide), if_neg (by decide), if_neg (by decide), if_neg (by decide), if_neg (by decide), if_neg (by decide), if_neg (by decide), if_pos rfl, if_neg (by omega), if_neg (by omega), if_neg (by decide)]
  · have e : (((4 : Int) == 3) != (x1 == 0)) = false := by
      have : (x1 == 0) = false := by rw [beq_eq_false_iff_ne]; omega
      rw [this]; rfl
    have e3 : (x3 != 0) = false := by have := (h5 rfl).2; simp [this]
    rw [e, if_neg (by decide), if_pos rfl, if_pos (h5 rfl).1, e3]; simp
theorem some_ite {c : Prop} [Decidable c] {a b : Option Int} (h : ∃ t, a = some t) (h' : ∃ t, b = some t) : ∃ t, (if c then a else b) = some t := by split <;> assumption
theorem j4_some (k : Nat) (u : Bool) (a b c d : Int) : ∃ t, order_Order_Check.j4 (k + 1) u a b c d = some t := by
  simp only [order_Order_Check.j4, far_is, Option.bind_some]
  repeat' (first | exact ⟨_, rfl⟩ | refine some_ite ?_ ?_)
theorem j3_some (k : Nat) (u : Bool) (a b c d : Int) : ∃ t, order_Order_Check.j3 (k + 2) u a b c d = some t := by
  simp only [order_Order_Check.j3, far_is, Option.bind_some]
  repeat' (first | exact ⟨_, rfl⟩ | exact j4_some _ _ _ _ _ _ | refine some_ite ?_ ?_)
theorem j2_some (k : Nat) (u : Bool) (a b c d : Int) : ∃ t, order_Order_Check.j2 (k + 3) u a b c d = some t := by
  simp only [order_Order_Check.j2]
  repeat' (first | exact ⟨_, rfl⟩ | exact j3_some _ _ _ _ _ _ | refine some_ite ?_ ?_)
theorem j1_some (k : Nat) (u : Bool) (a b c d : Int) : ∃ t, order_Order_Check.j1 (k + 4) u a b c d = some t := by
  simp only [order_Order_Check.j1]
  repeat' (first | exact ⟨_, rfl⟩ | exact j2_some _ _ _ _ _ _ | refine some_ite ?_ ?_)
theorem j0_some (k : Nat) (u : Bool) (a b c d : Int) : ∃ t, order_Order_Check.j0 (k + 5) u a b c d = some t := by
  simp only [order_Order_Check.j0]
  repeat' (first | exact ⟨_, rfl⟩ | exact j1_some _ _ _ _ _ _ | refine some_ite ?_ ?_)
theorem check_some (k : Nat) (a b c d : Int) : ∃ t, order_Order_Check.f (k + 6) a b c d = some t := by
  simp only [order_Order_Check.f]
  repeat' (first | exact j0_some (k + 1) _ _ _ _ _ | refine some_ite ?_ ?_)

theorem read_err (k : Nat) (acc : List S44) (n : Int) (s : ByteArray) : order_Read.l0 (k + 2) acc n s 1 = some ([], s, 1) := by
  simp only [order_Read.l0, order_Read.j1, wire_In_Err.f, Option.bind_some]
  have e : ((1 : Int) == 0) = false := by decide
  rw [e]
  by_cases h : n > 0
  · rw [if_pos h, if_neg (by decide), if_neg (by decide)]
  · rw [if_neg h, if_neg (by decide), if_neg (by decide)]
theorem fail_0 (s : ByteArray) : wire_In_Fail.f s 0 0 = some (s, 0) := rfl
theorem fail_1 (s : ByteArray) (t : Int) : wire_In_Fail.f s 1 t = some (s, 1) := rfl
/-- One round of Read. -/
theorem read_step (F : Nat) (acc : List S44) (n : Int) (hn : n > 0) (s : ByteArray) : order_Read.l0 (F + 1 + 1) acc n s 0 = ((wire_In_Count.f F s 0 4).bind fun bt148 => ((wire_In_Count.f F bt148.2.1 bt148.2.2 1099511627776).bind fun bt151 => ((wire_In_Int.f F bt151.2.1 bt151.2.2).bind fun bt154 => ((wire_In_Int.f F bt154.2.1 bt154.2.2).bind fun bt157 => ((order_Order_Check.f F bt148.1 bt151.1 bt154.1 bt157.1).bind fun t161 => ((wire_In_Fail.f bt157.2.1 bt157.2.2 t161).bind fun bt162 => (if acc.length < 4398046511104 then (order_Read.l0 F (acc ++ [(⟨bt148.1, bt151.1, bt154.1, bt157.1⟩ : S44)]) (wrap64 (n - 1)) bt162.1 bt162.2) else (none)))))))) := by
  simp only [order_Read.l0, order_Read.j1, wire_In_Err.f, Option.bind_some]
  rw [if_pos hn, show ((0 : Int) == 0) = true from rfl, if_pos rfl]
theorem read_ok : ∀ (os : List S44) (q : Nat) (acc : List S44) (rest : List UInt8), (∀ x ∈ os, T x) → acc.length + os.length ≤ 1000 →
    order_Read.l0 (2 * os.length + 20 + q) acc os.length (B (obs (os.map ordOf) ++ rest)) 0 = some (acc ++ os, B rest, 0)
  | [], q, acc, rest, _, _ => by
    rw [show 2 * ([] : List S44).length + 20 + q = (18 + q) + 1 + 1 from by simp only [List.length_nil]; omega]
    simp only [order_Read.l0, order_Read.j1, wire_In_Err.f, Option.bind_some, List.length_nil, List.map_nil]
    rw [if_neg (by decide), if_neg (by decide), if_pos trivial]
    simp [obs]
  | x :: os, q, acc, rest, hT, hl => by
    have hx := hT x (by simp)
    have ih := read_ok os q (acc ++ [x]) rest (fun y hy => hT y (by simp [hy])) (by simp at hl ⊢; omega)
    obtain ⟨K, hK⟩ : ∃ K, 2 * os.length + 20 + q = K + 6 := ⟨2 * os.length + 14 + q, by omega⟩
    rw [hK] at ih
    rw [show 2 * (x :: os).length + 20 + q = (K + 6) + 1 + 1 from by simp; omega, obs_cons hx]
    have hx' := hx
    obtain ⟨h0, h1, h2, h3, _⟩ := hx'
    have ck := check_ok K hx
    rw [read_step _ _ _ (by simp)]
    simp only [List.append_assoc]
    rw [count_ok (K + 1) (by omega) (by omega) (by omega) (by omega)]; simp only [Option.bind_some]
    rw [count_ok (K + 1) (by omega) (by omega) (by omega) (by omega)]; simp only [Option.bind_some]
    rw [int_ok (K + 1) (by omega) (by omega)]; simp only [Option.bind_some]
    rw [int_ok (K + 1) (by omega) (by omega)]; simp only [Option.bind_some]
    rw [ck]; simp only [Option.bind_some, fail_0]
    rw [if_pos (by simp at hl; omega)]
    rw [show wrap64 (((x :: os).length : Int) - 1) = (os.length : Int) from by rw [List.length_cons, wrap_in (by omega) (by simp at hl; omega)]; omega]
    rw [ih]; simp
/-- Where a list is cut. -/
theorem cut_at {a b p s : List UInt8} (h : a ++ b = p ++ s) (hs : s ≠ []) : (∃ r, p = a ++ r ∧ b = r ++ s) ∨ ∃ r, a = p ++ r ∧ r ≠ [] := by
  rcases List.append_eq_append_iff.1 h with ⟨r, h1, h2⟩ | ⟨r, h1, h2⟩
  · exact .inl ⟨r, h1, h2⟩
  · cases r with
    | nil => exact .inl ⟨[], by simpa using h1.symm, by simpa using h2.symm⟩
    | cons c r => exact .inr ⟨c :: r, h1, by simp⟩
theorem num_err1 (k : Nat) (s : ByteArray) : wire_In_Num.f (k + 5) s 1 = some (0, s, 1) := num_err (k + 2) s 1 (by decide)
theorem read_cut : ∀ (os : List S44) (q : Nat) (acc : List S44) (p s : List UInt8), (∀ x ∈ os, T x) → acc.length + os.length ≤ 1000 → obs (os.map ordOf) = p ++ s → s ≠ [] →
    order_Read.l0 (2 * os.length + 20 + q) acc os.length (B p) 0 = some ([], B [], 1)
  | [], q, acc, p, s, _, _, h, hs => by
    have : p ++ s = [] := by rw [← h]; rfl
    exact absurd (List.append_eq_nil_iff.1 this).2 hs
  | x :: os, q, acc, p, s, hT, hl, h, hs => by
    have hx := hT x (by simp)
    obtain ⟨K, hK⟩ : ∃ K, 2 * os.length + 20 + q = K + 6 := ⟨2 * os.length + 14 + q, by omega⟩
    rw [show 2 * (x :: os).length + 20 + q = (K + 6) + 1 + 1 from by simp; omega]
    have hx' := hx
    obtain ⟨h0, h1, h2, h3, _⟩ := hx'
    have ck := check_ok K hx
    have hw : wrap64 (((x :: os).length : Int) - 1) = (os.length : Int) := by rw [List.length_cons, wrap_in (by omega) (by simp at hl; omega)]; omega
    rw [obs_cons hx] at h
    rw [read_step _ _ _ (by simp), hw]
    have hz : zz x.f2 = 2 * x.f2 := by unfold zz; rw [if_neg (by omega)]
    have hy : zz x.f3 = 2 * x.f3 := by unfold zz; rw [if_neg (by omega)]
    rcases cut_at h hs with ⟨p1, rfl, g1⟩ | ⟨r, hr, hrn⟩
    · rw [count_ok (K + 1) (by omega) (by omega) (by omega) (by omega)]; simp only [Option.bind_some]
      rcases cut_at g1 hs with ⟨p2, rfl, g2⟩ | ⟨r, hr, hrn⟩
      · rw [count_ok (K + 1) (by omega) (by omega) (by omega) (by omega)]; simp only [Option.bind_some]
        rcases cut_at g2 hs with ⟨p3, rfl, g3⟩ | ⟨r, hr, hrn⟩
        · rw [int_ok (K + 1) (by omega) (by omega)]; simp only [Option.bind_some]
          rcases cut_at g3 hs with ⟨p4, rfl, g4⟩ | ⟨r, hr, hrn⟩
          · have ih := read_cut os q (acc ++ [x]) p4 s (fun y hy => hT y (by simp [hy])) (by simp at hl ⊢; omega) g4 hs
            rw [hK] at ih
            rw [int_ok (K + 1) (by omega) (by omega)]; simp only [Option.bind_some]
            rw [ck]; simp only [Option.bind_some, fail_0]
            rw [if_pos (by simp at hl; omega), ih]
          · rw [int_0 _ (num_cut (K + 1) (by omega) (by omega) hr hrn)]; simp only [Option.bind_some]
            obtain ⟨t, ht⟩ := check_some K x.f0 x.f1 x.f2 0
            rw [ht]; simp only [Option.bind_some, fail_1]
            rw [if_pos (by simp at hl; omega)]; exact read_err (K + 4) _ _ _
        · rw [int_0 _ (num_cut (K + 1) (by omega) (by omega) hr hrn)]; simp only [Option.bind_some]
          rw [int_0 _ (num_err1 (K + 1) _)]; simp only [Option.bind_some]
          obtain ⟨t, ht⟩ := check_some K x.f0 x.f1 0 0
          rw [ht]; simp only [Option.bind_some, fail_1]
          rw [if_pos (by simp at hl; omega)]; exact read_err (K + 4) _ _ _
      · rw [count_0 _ (by decide) (by decide) (num_cut (K + 1) (by omega) (by omega) hr hrn)]; simp only [Option.bind_some]
        rw [int_0 _ (num_err1 (K + 1) _)]; simp only [Option.bind_some]
        rw [int_0 _ (num_err1 (K + 1) _)]; simp only [Option.bind_some]
        obtain ⟨t, ht⟩ := check_some K x.f0 0 0 0
        rw [ht]; simp only [Option.bind_some, fail_1]
        rw [if_pos (by simp at hl; omega)]; exact read_err (K + 4) _ _ _
    · rw [count_0 _ (by decide) (by decide) (num_cut (K + 1) (by omega) (by omega) hr hrn)]; simp only [Option.bind_some]
      rw [count_0 _ (by decide) (by decide) (num_err1 (K + 1) _)]; simp only [Option.bind_some]
      rw [int_0 _ (num_err1 (K + 1) _)]; simp only [Option.bind_some]
      rw [int_0 _ (num_err1 (K + 1) _)]; simp only [Option.bind_some]
      obtain ⟨t, ht⟩ := check_some K 0 0 0 0
      rw [ht]; simp only [Option.bind_some, fail_1]
      rw [if_pos (by simp at hl; omega)]; exact read_err (K + 4) _ _ _
/-- A batch's bytes. -/
def bts (os : List S44) : List UInt8 := nb os.length ++ obs (os.map ordOf)
theorem bts_is (os : List S44) : batchBytes (os.map ordOf) = B (bts os) := by
  unfold batchBytes bts B
  simp [cbs, cb_in]
theorem parse_ok (os : List S44) (hT : ∀ x ∈ os, T x) (hl : os.length ≤ 8) (k : Nat) (hk : 60 ≤ k) (rest : List UInt8) :
    order_Read.f k (B (bts os ++ rest)) 0 = some (os, B rest, 0) := by
  obtain ⟨q, rfl⟩ : ∃ q, k = 2 * os.length + 20 + q := ⟨k - (2 * os.length + 20), by omega⟩
  unfold order_Read.f bts
  rw [List.append_assoc, show 2 * os.length + 20 + q = (2 * os.length + 15 + q) + 5 from by omega, count_ok _ (by omega) (by omega) (by omega) (by omega)]
  simp only [Option.bind_some]
  rw [show (2 * os.length + 15 + q) + 5 = 2 * os.length + 20 + q from by omega]
  exact read_ok os q [] rest hT (by simp; omega)
theorem parse_cut (os : List S44) (hT : ∀ x ∈ os, T x) (hl : os.length ≤ 8) (k : Nat) (hk : 60 ≤ k) (p s : List UInt8) (h : bts os = p ++ s) (hs : s ≠ []) :
    order_Read.f k (B p) 0 = some ([], B [], 1) := by
  obtain ⟨q, rfl⟩ : ∃ q, k = 2 * os.length + 20 + q := ⟨k - (2 * os.length + 20), by omega⟩
  unfold order_Read.f
  unfold bts at h
  rcases cut_at h hs with ⟨p1, rfl, g1⟩ | ⟨r, hr, hrn⟩
  · rw [show 2 * os.length + 20 + q = (2 * os.length + 15 + q) + 5 from by omega, count_ok _ (by omega) (by omega) (by omega) (by omega)]
    simp only [Option.bind_some]
    rw [show (2 * os.length + 15 + q) + 5 = 2 * os.length + 20 + q from by omega]
    exact read_cut os q [] p1 s hT (by simp; omega) g1 hs
  · rw [show 2 * os.length + 20 + q = (2 * os.length + 15 + q) + 5 from by omega, count_0 _ (by decide) (by decide) (num_cut _ (by omega) (by omega) hr hrn)]
    simp only [Option.bind_some]
    exact read_err _ _ _ _
end Go.Proofs.Ytfhckddfmlljfaa.QOrderApart
