/- Reading an order's bytes: the plain law on the printed readers. -/
import Derived.Test.YtfhckddfmlljfaaQOrderTextsx4
import Derived.Test.YtfhckddfmlljfaaGTextOrderTexts
import Derived.Test.YtfhckddfmlljfaaBits
namespace Go.Proofs.Ytfhckddfmlljfaa.QOrderTexts
open Go.Proofs.Ytfhckddfmlljfaa Go.RowKit Go.Proofs.YtfhckddfmlljfaaW.PrintWords Go.Proofs.YtfhckddfmlljfaaW.PrintLast Go.Proofs.YtfhckddfmlljfaaW.PrintMore
set_option linter.unusedVariables false
set_option linter.unusedSimpArgs false

theorem wrap_in {i : Int} (h0 : -9223372036854775808 ≤ i) (h : i ≤ 9223372036854775807) : wrap64 i = i := by unfold wrap64; omega
/-- Bytes as a text. -/
def B (l : List UInt8) : ByteArray := ⟨l.toArray⟩
theorem B_size (l : List UInt8) : (B l).size = l.length := by simp [B, ByteArray.size]
theorem B_nil : B [] = (⟨#[]⟩ : ByteArray) := rfl
theorem B_list (l : List UInt8) : (B l).toList = l := by simp [B]
theorem B_ext (s : ByteArray) : s = B s.data.toList := by cases s; simp [B]
theorem B_app (a b : List UInt8) : B a ++ B b = B (a ++ b) := by
  apply ByteArray.ext; apply Array.ext'; simp [B]
theorem B_cut (a b : List UInt8) : (B (a ++ b)).extract 0 a.length = B a := by
  apply ByteArray.ext; apply Array.ext'; simp [B]
theorem B_one (c : UInt8) (l : List UInt8) : (B (c :: l)).extract 0 1 = B [c] := B_cut [c] l
theorem B_rest (c : UInt8) (l : List UInt8) : (B (c :: l)).extract 1 (B (c :: l)).size = B l := by
  rw [B_size]; apply ByteArray.ext; apply Array.ext'; simp [B]
theorem B_bt (c : UInt8) (l : List UInt8) : bt (B (c :: l)) 0 = (c.toNat : Int) := by
  have h : (0 : Int).toNat < (B (c :: l)).size := by rw [B_size]; simp
  unfold bt
  rw [dif_pos h]; rfl

theorem raw_one (k : Nat) (c : UInt8) (l : List UInt8) : wire_In_Raw.f (k + 1) (B (c :: l)) 0 1 = some (B [c], B l, 0) := by
  unfold wire_In_Raw.f
  simp only [wire_In_Raw.j0]
  rw [if_pos trivial, if_neg (by decide), if_neg (by rw [B_size, List.length_cons]; omega), if_pos (by decide), if_pos (by rw [B_size, List.length_cons]; omega)]
  rw [show (1 : Int).toNat = 1 from rfl, B_one, B_rest]
theorem raw_none (k : Nat) : wire_In_Raw.f (k + 1) (B []) 0 1 = some (B [], B [], 1) := by
  unfold wire_In_Raw.f
  simp only [wire_In_Raw.j0]
  rw [if_pos trivial, if_neg (by decide), if_pos (by rw [B_size]; simp)]
  rfl
theorem raw_err (k : Nat) (s : ByteArray) (e : Int) (he : e ≠ 0) : wire_In_Raw.f (k + 1) s e 1 = some (B [], s, e) := by
  unfold wire_In_Raw.f
  simp only [wire_In_Raw.j0]
  rw [if_neg he, if_pos trivial]; rfl
theorem u8_lt (c : UInt8) : (c.toNat : Int) < 256 := by have := c.toNat_lt; omega
theorem piece_0 (c : Int) (h0 : 0 ≤ c) (h1 : c ≤ 255) : Go.bits .or .u64 0 (shl .u64 (IntKind.u64.wrap (Go.bits .and .u8 c 127)) 0) = c % 128 := by
  have h := or_num 0 c 0 (by decide) (by decide) (by decide) h0 h1 (by omega)
  have e : shl .u64 (IntKind.u64.wrap (Go.bits .and .u8 c 127)) 0 = IntKind.u64.wrap (IntKind.u64.wrap (Go.bits .and .u8 c 127) * 2 ^ (7 * 0)) := rfl
  rw [e, h, show (128 : Int) ^ 0 = 1 from rfl]; omega
theorem piece_7 (n c : Int) (hn0 : 0 ≤ n) (hn : n < 128) (h0 : 0 ≤ c) (h1 : c ≤ 255) : Go.bits .or .u64 n (shl .u64 (IntKind.u64.wrap (Go.bits .and .u8 c 127)) 7) = n + c % 128 * 128 := by
  have h := or_num n c 1 (by decide) hn0 (by rw [show (128 : Int) ^ 1 = 128 from rfl]; exact hn) h0 h1 (by omega)
  have e : shl .u64 (IntKind.u64.wrap (Go.bits .and .u8 c 127)) 7 = IntKind.u64.wrap (IntKind.u64.wrap (Go.bits .and .u8 c 127) * 2 ^ (7 * 1)) := rfl
  rw [e, h, show (128 : Int) ^ 1 = 128 from rfl]
theorem num_one (k : Nat) (c : UInt8) (l : List UInt8) (hc : c.toNat < 128) : wire_In_Num.f (k + 3) (B (c :: l)) 0 = some ((c.toNat : Int), B l, 0) := by
  unfold wire_In_Num.f
  simp only [wire_In_Num.l0, raw_one, Option.bind_some, wire_In_Num.j1, B_bt]
  rw [if_pos trivial, if_pos (by rw [B_size]; simp)]
  have hp := piece_0 c.toNat (by omega) (by omega)
  have hm : (c.toNat : Int) % 128 = c.toNat := by omega
  by_cases hz : (c.toNat : Int) = 0
  · rw [if_pos hz, if_neg (by decide), if_neg (by decide), if_neg (by decide), if_pos (by decide), if_pos (by omega), hp, hm]
  · rw [if_neg hz, if_neg (by decide), if_neg (by decide), if_pos (by decide), if_pos (by omega), hp, hm]
theorem num_two (k : Nat) (c d : UInt8) (l : List UInt8) (hc : 128 ≤ c.toNat) (hd0 : 0 < d.toNat) (hd : d.toNat < 128) : wire_In_Num.f (k + 5) (B (c :: d :: l)) 0 = some ((c.toNat : Int) % 128 + d.toNat * 128, B l, 0) := by
  unfold wire_In_Num.f
  simp only [wire_In_Num.l0, raw_one, Option.bind_some, wire_In_Num.j1, B_bt]
  have hc1 := u8_lt c
  have hp := piece_0 c.toNat (by omega) (by omega)
  have hq := piece_7 ((c.toNat : Int) % 128) d.toNat (by omega) (by omega) (by omega) (by omega)
  have hm : (d.toNat : Int) % 128 = d.toNat := by omega
  rw [if_pos trivial, if_pos (by rw [B_size]; simp), if_neg (by omega), if_neg (by decide), if_neg (by decide), if_pos (by decide), if_neg (by omega), hp, show wrap64 (0 + 7) = 7 from by rw [wrap_in (by decide) (by decide)]; rfl]
  rw [if_pos trivial, if_pos (by rw [B_size]; simp), if_neg (by omega), if_neg (by decide), if_neg (by decide), if_pos (by decide), if_pos (by omega), hq, hm]
theorem num_end (k : Nat) : wire_In_Num.f (k + 3) (B []) 0 = some (0, B [], 1) := by
  unfold wire_In_Num.f
  simp only [wire_In_Num.l0, raw_none, Option.bind_some]
  rw [if_neg (by decide)]
theorem num_end1 (k : Nat) (c : UInt8) (hc : 128 ≤ c.toNat) : wire_In_Num.f (k + 5) (B [c]) 0 = some (0, B [], 1) := by
  unfold wire_In_Num.f
  simp only [wire_In_Num.l0, raw_one, raw_none, Option.bind_some, wire_In_Num.j1, B_bt]
  rw [if_pos trivial, if_pos (by rw [B_size]; simp), if_neg (by omega), if_neg (by decide), if_neg (by decide), if_pos (by decide), if_neg (by omega), if_neg (by decide)]
theorem num_err (k : Nat) (s : ByteArray) (e : Int) (he : e ≠ 0) : wire_In_Num.f (k + 3) s e = some (0, s, e) := by
  unfold wire_In_Num.f
  simp only [wire_In_Num.l0, raw_err _ _ _ he, Option.bind_some]
  rw [if_neg he]
/-- A small number's bytes. -/
theorem nb_cases {n : Int} (h0 : 0 ≤ n) (h : n < 16384) : (∃ c : UInt8, nb n = [c] ∧ c.toNat < 128 ∧ (c.toNat : Int) = n) ∨ ∃ c d : UInt8, nb n = [c, d] ∧ 128 ≤ c.toNat ∧ 0 < d.toNat ∧ d.toNat < 128 ∧ (c.toNat : Int) % 128 + d.toNat * 128 = n := by
  by_cases hn : n < 128
  · exact .inl ⟨_, nb_small h0 hn, by simp; omega, by simp; omega⟩
  · refine .inr ⟨UInt8.ofNat (n % 128 + 128).toNat, UInt8.ofNat (n / 128).toNat, ?_, ?_, ?_, ?_, ?_⟩
    · rw [nb_big (by omega), nb_small (by omega) (by omega)]
    all_goals simp; omega
theorem num_ok (k : Nat) {n : Int} (h0 : 0 ≤ n) (h : n < 16384) (l : List UInt8) : wire_In_Num.f (k + 5) (B (nb n ++ l)) 0 = some (n, B l, 0) := by
  rcases nb_cases h0 h with ⟨c, e, hc, hn⟩ | ⟨c, d, e, hc, hd0, hd, hn⟩
  · rw [e, ← hn]; exact num_one (k + 2) c l hc
  · rw [e, ← hn]; exact num_two k c d l hc hd0 hd
theorem num_cut (k : Nat) {n : Int} (h0 : 0 ≤ n) (h : n < 16384) {p q : List UInt8} (e : nb n = p ++ q) (hq : q ≠ []) : wire_In_Num.f (k + 5) (B p) 0 = some (0, B [], 1) := by
  rcases nb_cases h0 h with ⟨c, e1, hc, hn⟩ | ⟨c, d, e1, hc, hd0, hd, hn⟩
  · rw [e1] at e
    match p, q, e, hq with
    | [], _, _, _ => exact num_end (k + 2)
    | [c'], [], _, hq => exact absurd rfl hq
    | [c'], (_ :: _), e, _ => simp at e
    | (_ :: _ :: _), _, e, _ => simp at e
  · rw [e1] at e
    match p, q, e, hq with
    | [], _, _, _ => exact num_end (k + 2)
    | [c'], _, e, _ => obtain ⟨rfl, _⟩ : c = c' ∧ _ := by simpa using e
                       exact num_end1 k c hc
    | [_, _], [], _, hq => exact absurd rfl hq
    | [_, _], (_ :: _), e, _ => simp at e
    | (_ :: _ :: _ :: _), _, e, _ => simp at e
theorem count_ok (k : Nat) {n most : Int} (h0 : 0 ≤ n) (h : n < 16384) (hm : n ≤ most) (hm1 : most ≤ 1099511627776) (l : List UInt8) : wire_In_Count.f (k + 5) (B (nb n ++ l)) 0 most = some (n, B l, 0) := by
  unfold wire_In_Count.f
  rw [num_ok k h0 h, Option.bind_some]
  have : IntKind.u64.wrap (mx most 0) = most := by unfold mx; rw [if_neg (by omega), IntKind.wrap_u64]; omega
  rw [this, if_neg (by simp only; omega), wrap_in (by simp only; omega) (by simp only; omega)]
theorem count_0 (k : Nat) {most : Int} (hm : 0 ≤ most) (hm1 : most ≤ 1099511627776) {s : ByteArray} {e : Int} {s' : ByteArray} {e' : Int} (h : wire_In_Num.f k s e = some (0, s', e')) : wire_In_Count.f k s e most = some (0, s', e') := by
  unfold wire_In_Count.f
  rw [h, Option.bind_some]
  have : IntKind.u64.wrap (mx most 0) = most := by unfold mx; rw [if_neg (by omega), IntKind.wrap_u64]; omega
  simp only [this]
  rw [if_neg (by omega), wrap_in (by decide) (by decide)]
theorem i64_xor0 (x : Nat) (hx : x < 9223372036854775808) : Go.bits .xor .i64 (x : Int) 0 = x := by
  show IntKind.i64.wrap ((BitVec.ofInt 64 (x : Int) ^^^ BitVec.ofInt 64 0).toNat : Int) = _
  have h2 : (BitVec.ofInt 64 (x : Int)).toNat = x := by
    rw [BitVec.ofInt_natCast, BitVec.toNat_ofNat]; exact Nat.mod_eq_of_lt (by omega)
  rw [BitVec.toNat_xor, h2, show (BitVec.ofInt 64 0).toNat = 0 from rfl, Nat.xor_zero, IntKind.wrap_i64]
  omega
theorem int_val {a : Int} (h0 : 0 ≤ a) (h : a < 8192) : Go.bits .xor .i64 (wrap64 (zz a / 2)) (wrap64 (-(wrap64 (Go.bits .and .u64 (zz a) 1)))) = a := by
  have hz : zz a = 2 * a := by unfold zz; rw [if_neg (by omega)]
  rw [hz, Lib.u64_and1 _ (by omega) (by omega), show (2 * a) % 2 = 0 from by omega, show 2 * a / 2 = a from by omega, wrap_in (by omega) (by omega)]
  rw [show wrap64 (-(wrap64 0)) = 0 from by rw [wrap_in (i := 0) (by decide) (by decide)]; exact wrap_in (by decide) (by decide)]
  obtain ⟨m, rfl⟩ := Int.eq_ofNat_of_zero_le h0
  exact i64_xor0 m (by omega)
theorem int_ok (k : Nat) {a : Int} (h0 : 0 ≤ a) (h : a < 8192) (l : List UInt8) : wire_In_Int.f (k + 5) (B (ib a ++ l)) 0 = some (a, B l, 0) := by
  have hz : zz a = 2 * a := by unfold zz; rw [if_neg (by omega)]
  unfold wire_In_Int.f ib
  rw [num_ok k (by omega) (by omega), Option.bind_some]
  simp only [int_val h0 h]
theorem int_0 (k : Nat) {s : ByteArray} {e : Int} {s' : ByteArray} {e' : Int} (h : wire_In_Num.f k s e = some (0, s', e')) : wire_In_Int.f k s e = some (0, s', e') := by
  unfold wire_In_Int.f
  rw [h, Option.bind_some]
  have := int_val (a := 0) (by decide) (by decide)
  simp only [show zz 0 = 0 from rfl] at this
  simp only [this]
end Go.Proofs.Ytfhckddfmlljfaa.QOrderTexts
