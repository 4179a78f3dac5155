/- Orders that may be, read again. -/
import Derived.Test.YtfhckddfmlljfaaTexts9OrderTexts
namespace Go.Proofs.Ytfhckddfmlljfaa.QOrderTexts
open Go.Proofs.Ytfhckddfmlljfaa Go.RowKit Go.Proofs.YtfhckddfmlljfaaW.PrintWords Go.Proofs.YtfhckddfmlljfaaW.PrintLast Go.Proofs.YtfhckddfmlljfaaW.PrintMore
set_option linter.unusedVariables false
set_option linter.unusedSimpArgs false
theorem i64_xor_m1 (x : Nat) (hx : x < 9223372036854775808) : Go.bits .xor .i64 (x : Int) (-1) = -(x : Int) - 1 := by
  have h := Lib.i64_not x hx
  rw [← h]
  show IntKind.i64.wrap ((BitVec.ofInt 64 (x : Int) ^^^ BitVec.ofInt 64 (-1)).toNat : Int) = IntKind.i64.wrap ((BitVec.ofInt 64 (-1) ^^^ BitVec.ofInt 64 (x : Int)).toNat : Int)
  rw [BitVec.xor_comm]
theorem int_val_any {a : Int} (h0 : -4611686018427387904 ≤ a) (h : a < 4611686018427387904) : Go.bits .xor .i64 (wrap64 (zz a / 2)) (wrap64 (-(wrap64 (Go.bits .and .u64 (zz a) 1)))) = a := by
  by_cases hn : a < 0
  · have hz : zz a = -2 * a - 1 := by unfold zz; rw [if_pos hn]
    rw [hz, Lib.u64_and1 _ (by omega) (by omega), show (-2 * a - 1) % 2 = 1 from by omega, show (-2 * a - 1) / 2 = -a - 1 from by omega, wrap_in (by omega) (by omega), wrap_in (i := 1) (by decide) (by decide), wrap_in (by decide) (by decide)]
    obtain ⟨m, hm⟩ := Int.eq_ofNat_of_zero_le (show 0 ≤ -a - 1 by omega)
    rw [hm, i64_xor_m1 m (by omega)]
    omega
  · have hz : zz a = 2 * a := by unfold zz; rw [if_neg hn]
    rw [hz, Lib.u64_and1 _ (by omega) (by omega), show (2 * a) % 2 = 0 from by omega, show 2 * a / 2 = a from by omega, wrap_in (i := 0) (by decide) (by decide), wrap_in (i := -0) (by decide) (by decide), wrap_in (by omega) (by omega)]
    obtain ⟨m, rfl⟩ := Int.eq_ofNat_of_zero_le (show 0 ≤ a by omega)
    exact i64_xor0 m (by omega)
theorem count_any (k : Nat) (hk : 23 ≤ k) {n most : Int} (h0 : 0 ≤ n) (hm : n ≤ most) (hm1 : most ≤ 1099511627776) (l : List UInt8) : wire_In_Count.f k (B (nb n ++ l)) 0 most = some (n, B l, 0) := by
  unfold wire_In_Count.f
  rw [num_any k hk h0 (by omega), Option.bind_some]
  have : IntKind.u64.wrap (mx most 0) = most := by unfold mx; rw [if_neg (by omega), IntKind.wrap_u64]; omega
  rw [this, if_neg (by simp only; omega), wrap_in (by simp only; omega) (by simp only; omega)]
theorem int_any (k : Nat) (hk : 23 ≤ k) {a : Int} (h0 : -4611686018427387904 ≤ a) (h : a < 4611686018427387904) (l : List UInt8) : wire_In_Int.f k (B (ib a ++ l)) 0 = some (a, B l, 0) := by
  have hz : 0 ≤ zz a ∧ zz a < 18446744073709551616 := by unfold zz; split <;> omega
  unfold wire_In_Int.f ib
  rw [num_any k hk hz.1 hz.2, Option.bind_some]
  simp only [int_val_any h0 h]
theorem cb_in {n : Int} (h : 0 ≤ n) : cb n = nb n := by unfold cb; rw [if_neg (by omega)]
theorem ob_M {x : S44} (h : M x) : ob (ordOf x) = nb x.f0 ++ (nb x.f1 ++ (ib x.f2 ++ ib x.f3)) := by
  obtain ⟨h0, h1, _⟩ := h
  have e : IntKind.u64.wrap x.f1 = x.f1 := by rw [IntKind.wrap_u64]; omega
  simp only [ob, ordOf, cbs, nbs, ibs, List.flatMap_cons, List.flatMap_nil, List.append_nil, e, cb_in (show 0 ≤ x.f0 by omega), List.append_assoc]
theorem obs_M {x : S44} (h : M x) (os : List S44) : obs ((x :: os).map ordOf) = nb x.f0 ++ (nb x.f1 ++ (ib x.f2 ++ (ib x.f3 ++ obs (os.map ordOf)))) := by
  have e : obs ((x :: os).map ordOf) = ob (ordOf x) ++ obs (os.map ordOf) := by simp [obs]
  rw [e, ob_M h]; simp only [List.append_assoc]
/-- One round of Read. -/
theorem read_step (F : Nat) (acc : List S44) (n : Int) (hn : n > 0) (s : ByteArray) : order_Read.l0 (F + 1 + 1) acc n s 0 = ((wire_In_Count.f F s 0 4).bind fun bt148 => ((wire_In_Count.f F bt148.2.1 bt148.2.2 1099511627776).bind fun bt151 => ((wire_In_Int.f F bt151.2.1 bt151.2.2).bind fun bt154 => ((wire_In_Int.f F bt154.2.1 bt154.2.2).bind fun bt157 => ((order_Order_Check.f F bt148.1 bt151.1 bt154.1 bt157.1).bind fun t161 => ((wire_In_Fail.f bt157.2.1 bt157.2.2 t161).bind fun bt162 => (if acc.length < 4398046511104 then (order_Read.l0 F (acc ++ [(⟨bt148.1, bt151.1, bt154.1, bt157.1⟩ : S44)]) (wrap64 (n - 1)) bt162.1 bt162.2) else (none)))))))) := by
  simp only [order_Read.l0, order_Read.j1, wire_In_Err.f, Option.bind_some]
  rw [if_pos hn, show ((0 : Int) == 0) = true from rfl, if_pos rfl]
theorem fail_0 (s : ByteArray) : wire_In_Fail.f s 0 0 = some (s, 0) := rfl
theorem read_M : ∀ (os : List S44) (q : Nat) (acc : List S44) (rest : List UInt8), (∀ x ∈ os, M x ∧ ∀ k, order_Order_Check.f (k + 6) x.f0 x.f1 x.f2 x.f3 = some 0) → acc.length + os.length ≤ 1000 →
    order_Read.l0 (2 * os.length + 40 + q) acc os.length (B (obs (os.map ordOf) ++ rest)) 0 = some (acc ++ os, B rest, 0)
  | [], q, acc, rest, _, _ => by
    rw [show 2 * ([] : List S44).length + 40 + q = (38 + q) + 1 + 1 from by simp only [List.length_nil]; omega]
    simp only [order_Read.l0, order_Read.j1, wire_In_Err.f, Option.bind_some, List.length_nil, List.map_nil]
    rw [if_neg (by decide), if_neg (by decide), if_pos trivial]
    simp [obs]
  | x :: os, q, acc, rest, hT, hl => by
    have hx := hT x (by simp)
    have ih := read_M os q (acc ++ [x]) rest (fun y hy => hT y (by simp [hy])) (by simp at hl ⊢; omega)
    obtain ⟨K, hK⟩ : ∃ K, 2 * os.length + 40 + q = K + 6 := ⟨2 * os.length + 34 + q, by omega⟩
    rw [hK] at ih
    rw [show 2 * (x :: os).length + 40 + q = (K + 6) + 1 + 1 from by simp; omega, obs_M hx.1]
    have hx' := hx.1
    obtain ⟨h0, h1, h2, h3⟩ := hx'
    have ck := hx.2 K
    rw [read_step _ _ _ (by simp)]
    simp only [List.append_assoc]
    rw [count_any (K + 6) (by omega) (by omega) (by omega) (by omega)]; simp only [Option.bind_some]
    rw [count_any (K + 6) (by omega) (by omega) (by omega) (by omega)]; simp only [Option.bind_some]
    rw [int_any (K + 6) (by omega) (by omega) (by omega)]; simp only [Option.bind_some]
    rw [int_any (K + 6) (by omega) (by omega) (by omega)]; simp only [Option.bind_some]
    rw [ck]; simp only [Option.bind_some, fail_0]
    rw [if_pos (by simp at hl; omega)]
    rw [show wrap64 (((x :: os).length : Int) - 1) = (os.length : Int) from by rw [List.length_cons, wrap_in (by omega) (by simp at hl; omega)]; omega]
    rw [ih]; simp
end Go.Proofs.Ytfhckddfmlljfaa.QOrderTexts
