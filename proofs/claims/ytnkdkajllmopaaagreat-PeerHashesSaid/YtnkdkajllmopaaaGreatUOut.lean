/- The writer of bytes (wire.Out): what each of its calls puts behind. -/
import Derived.Test.YtnkdkajllmopaaaGreatUIn
/- Out.Int. -/
namespace Go.Proofs.YtnkdkajllmopaaaGreat.TL
open Go
set_option linter.unusedVariables false
set_option linter.unusedSimpArgs false

/-- A number's groups of seven bits. -/
def nb (n : Nat) : List UInt8 := if n < 128 then [UInt8.ofNat n] else UInt8.ofNat (n % 128 + 128) :: nb (n / 128)
termination_by n
decreasing_by omega
def nbs (l : List Nat) : List UInt8 := (l.map nb).flatten
def u64c (n : Nat) : TV := .v (.int .u64 n)
def i64c (n : Int) : TV := .v (.int .i64 n)
abbrev outB (u n : Nat) : Blk := ⟨0, [.sl 1001 u 0 n]⟩
abbrev outH (v u : Nat) (l : List UInt8) : Heap := [(1000, v, outB u l.length), (1001, u, ⟨1, l.map bv⟩)]

@[simp] theorem take_all_map {α β : Type} (f : α → β) (l : List α) : List.take l.length (List.map f l) = List.map f l := List.take_of_length_le (by simp)
theorem nb_lt {n : Nat} (h : n < 128) : nb n = [UInt8.ofNat n] := by rw [nb, if_pos h]
theorem nb_ge {n : Nat} (h : ¬ n < 128) : nb n = UInt8.ofNat (n % 128 + 128) :: nb (n / 128) := by rw [nb, if_neg h]
theorem nb_len : ∀ (j n : Nat), n < 2 ^ (7 * j + 7) → (nb n).length ≤ j + 1
  | 0, n, h => by rw [nb_lt (by simpa using h)]; simp
  | j + 1, n, h => by
    by_cases hn : n < 128
    · rw [nb_lt hn]; simp
    · rw [nb_ge hn]
      have : 2 ^ (7 * (j + 1) + 7) = 2 ^ (7 * j + 7) * 128 := by rw [show 7 * (j + 1) + 7 = 7 * j + 7 + 7 by omega, Nat.pow_add]
      have := nb_len j (n / 128) (by omega)
      simp only [List.length_cons]
      omega
theorem nb_len10 {n : Nat} (h : n < 2 ^ 64) : (nb n).length ≤ 10 := nb_len 9 n (by omega)
theorem nbs_len : ∀ {l : List Nat}, (∀ n ∈ l, n < 2 ^ 64) → (nbs l).length ≤ 10 * l.length
  | [], _ => by simp [nbs]
  | n :: l, h => by
    have h1 := nb_len10 (h n List.mem_cons_self)
    have h2 := nbs_len (l := l) fun m hm => h m (List.mem_cons_of_mem _ hm)
    simp only [nbs, List.map_cons, List.flatten_cons, List.length_append, List.length_cons] at h2 ⊢
    omega
@[simp] theorem nbs_one (n : Nat) : nbs [n] = nb n := by simp [nbs]
@[simp] theorem nbs_nil : nbs [] = [] := rfl
theorem nbs_snoc (l : List Nat) (n : Nat) : nbs (l ++ [n]) = nbs l ++ nb n := by simp [nbs]
theorem u8_or128 (n : Nat) : bits .or .u8 (IntKind.u8.wrap (n : Int)) 128 = ((n % 128 + 128 : Nat) : Int) := by
  have h0 : IntKind.u8.wrap (n : Int) = ((n % 256 : Nat) : Int) := by rw [IntKind.wrap_u8]; omega
  have h1 : (n % 256) ||| 128 = n % 128 + 128 := by
    have e : ∀ b : BitVec 8, (b ||| 128#8) = (b &&& 127#8) + 128#8 := by decide
    have := congrArg BitVec.toNat (e (BitVec.ofNat 8 (n % 256)))
    simp only [BitVec.toNat_or, BitVec.toNat_add, BitVec.toNat_and, BitVec.toNat_ofNat] at this
    have h2 : n % 256 % 2 ^ 8 &&& 127 % 2 ^ 8 = n % 256 % 2 ^ 8 % 2 ^ 7 := Nat.and_two_pow_sub_one_eq_mod _ 7
    rw [h2] at this
    simp only [Nat.reducePow, Nat.reduceMod] at this
    rw [Nat.mod_mod] at this
    omega
  have key : (BitVec.ofInt 8 ((n % 256 : Nat) : Int) ||| BitVec.ofInt 8 128).toNat = n % 128 + 128 := by
    have h128 : (BitVec.ofInt 8 128).toNat = 128 := by decide
    rw [ofInt_nat, BitVec.toNat_or, h128, BitVec.toNat_ofNat, Nat.mod_eq_of_lt (by omega), h1]
  rw [h0]
  show IntKind.u8.wrap ((BitVec.ofInt 8 ((n % 256 : Nat) : Int) ||| BitVec.ofInt 8 128).toNat : Nat) = _
  rw [key]
  exact u8_id (by omega) (by omega)
theorem bv_u8 (n : Nat) : bv (UInt8.ofNat n) = .v (.int .u8 ((n % 256 : Nat) : Int)) := by simp [bv]

set_option maxRecDepth 100000 in
theorem OutNum_T (v u : Nat) (l : List UInt8) (ns : List Nat) (hn : ∀ n ∈ ns, n < 2 ^ 64) (hl : l.length + 10 * ns.length ≤ 1000000000000) :
    callT Tryz.prog 76 [.at 1000 v 0, .isl (ns.map u64c) ns.length] ⟨[], outH v u l⟩ (fun r h => ∃ u', r = .at 1000 v 0 ∧ h = outH v u' (l ++ nbs ns)) := by
  refine callT_of_body [0, 1, 4, 6, 7, 8, 9, 10, 14] [1000, 1001] Tryz.func76 rfl (by decide) (by kernel_rfl) rfl ?_
  simp
  refine loopT_of (Nat × Nat) (fun x => x.1 ≤ ns.length) (fun x => ⟨[(0, .at 1000 v 0), (7, .isl (ns.map u64c) ns.length), (8, .v (.int .i64 ns.length)), (9, .v (.int .i64 x.1))], outH v x.2 (l ++ nbs (ns.take x.1))⟩) (fun x => ns.length - x.1) (0, u) (by simp) (by simp) (by simp [nbs]) ?_
  rintro ⟨k, u1⟩ hk
  simp only at hk ⊢
  simp
  refine ⟨fun h1 => ?_, fun h1 => ?_⟩
  · have e1 : List.drop k (ns.map u64c) = u64c ns[k] :: List.drop (k + 1) (ns.map u64c) := by
      rw [List.drop_eq_getElem_cons (by simpa using h1)]; simp
    simp [e1, u64c, h1]
    have hm := hn ns[k] (List.getElem_mem h1)
    have hk1 : nbs (ns.take (k + 1)) = nbs (ns.take k) ++ nb ns[k] := by rw [List.take_succ_eq_append_getElem h1, nbs_snoc]
    have hkl := nbs_len (l := ns.take (k + 1)) fun n h => hn n (List.mem_of_mem_take h)
    rw [hk1] at hkl
    simp only [List.length_append, List.length_take] at hkl
    refine loopT_of (List UInt8 × Nat × Nat) (fun x => x.2.1 < 2 ^ 64 ∧ x.1 ++ nb x.2.1 = (l ++ nbs (ns.take k)) ++ nb ns[k]) (fun x => ⟨[(0, .at 1000 v 0), (6, u64c x.2.1), (7, .isl (ns.map u64c) ns.length), (8, .v (.int .i64 ns.length)), (9, .v (.int .i64 k))], outH v x.2.2 x.1⟩) (fun x => x.2.1) (l ++ nbs (ns.take k), ns[k], u1) ⟨hm, rfl⟩ (by simp [u64c]) (by simp) ?_
    rintro ⟨l1, m, u2⟩ ⟨hm1, hm2⟩
    simp only at hm1 hm2 ⊢
    simp [u64c]
    have hlen := congrArg List.length hm2
    simp only [List.length_append] at hlen
    refine ⟨fun h2 v1 => ⟨by omega, fun v2 => ?_⟩, fun h2 v1 => ⟨by omega, fun v2 => ?_⟩⟩
    · have e2 : ((m : Int)).fdiv (2 ^ min 7 IntKind.u64.bits) = ((m / 128 : Nat) : Int) := by
        have : min 7 IntKind.u64.bits = 7 := by decide
        rw [this, Int.fdiv_eq_ediv_of_nonneg _ (by decide)]
        omega
      have h3 : ¬ m < 128 := by omega
      have e3 : bv (UInt8.ofNat (m % 128 + 128)) = .v (.int .u8 ((m % 128 + 128 : Nat) : Int)) := by rw [bv_u8, Nat.mod_eq_of_lt (by omega)]
      refine SLx.again (l1 ++ [UInt8.ofNat (m % 128 + 128)], m / 128, v2) ⟨by simp only; omega, ?_⟩ (by simp only; omega) ?_ ?_
      · rw [nb_ge h3] at hm2
        simp only [List.append_assoc, List.singleton_append]
        rw [hm2, List.append_assoc]
      · simp [e2, u64c]
      · rw [u8_or128]
        simp only [List.map_append, List.map_cons, List.map_nil, e3]
        simp [show bv (UInt8.ofNat (m % 128) + 128) = .v (.int .u8 ((m : Int) % 128 + 128)) by simpa using e3]
    · have h3 : m < 128 := by omega
      have e3 : bv (UInt8.ofNat m) = .v (.int .u8 (m : Int)) := by rw [bv_u8, Nat.mod_eq_of_lt (by omega)]
      have e4 : IntKind.i64.wrap ((k : Int) + 1) = ((k + 1 : Nat) : Int) := by rw [i64_id (by omega) (by omega)]; rfl
      have e5 : l ++ nbs (ns.take (k + 1)) = l1 ++ [UInt8.ofNat m] := by rw [hk1, ← List.append_assoc, ← hm2, nb_lt h3]
      refine SLx.again (k + 1, v2) (by simp only; omega) (by simp only; omega) ?_ ?_
      · simp [e4]
      · simp only [e5, outH, outB]
        rw [u8_id (by omega) (by omega)]
        simp [e3]
  · have e1 : k = ns.length := by omega
    subst e1
    simp

set_option maxRecDepth 100000 in
theorem OutCount_T (v u : Nat) (l : List UInt8) (ns : List Int) (hn : ∀ n ∈ ns, n < 2 ^ 63) (hl : l.length + 10 * ns.length ≤ 1000000000000) :
    callT Tryz.prog 47 [.at 1000 v 0, .isl (ns.map i64c) ns.length] ⟨[], outH v u l⟩ (fun r h => ∃ u', r = .at 1000 v 0 ∧ h = outH v u' (l ++ nbs (ns.map Int.toNat))) := by
  refine callT_of_body [0, 1, 4, 6, 7, 8, 9, 10] [1000, 1001] Tryz.func47 rfl (by decide) (by kernel_rfl) rfl ?_
  simp
  refine loopT_of (Nat × Nat) (fun x => x.1 ≤ ns.length) (fun x => ⟨[(0, .at 1000 v 0), (7, .isl (ns.map i64c) ns.length), (8, .v (.int .i64 ns.length)), (9, .v (.int .i64 x.1))], outH v x.2 (l ++ nbs ((ns.map Int.toNat).take x.1))⟩) (fun x => ns.length - x.1) (0, u) (by simp) (by simp) (by simp [nbs]) ?_
  rintro ⟨k, u1⟩ hk
  simp only at hk ⊢
  simp
  refine ⟨fun h1 => ?_, fun h1 => ?_⟩
  · have e1 : List.drop k (ns.map i64c) = i64c ns[k] :: List.drop (k + 1) (ns.map i64c) := by
      rw [List.drop_eq_getElem_cons (by simpa using h1)]; simp
    simp [e1, i64c, h1]
    intro v1
    have h2 := hn ns[k] (List.getElem_mem h1)
    have e0 : IntKind.u64.wrap (max ns[k] 0) = (ns[k].toNat : Int) := by rw [u64_id (by omega) (by omega)]; omega
    have hk1 : nbs ((ns.map Int.toNat).take (k + 1)) = nbs ((ns.map Int.toNat).take k) ++ nb ns[k].toNat := by rw [List.take_succ_eq_append_getElem (by simpa using h1), nbs_snoc]; simp
    have hkl := nbs_len (l := (ns.map Int.toNat).take k) fun n h => by
      obtain ⟨x, hx, rfl⟩ := List.mem_map.1 (List.mem_of_mem_take h)
      have := hn x hx
      omega
    simp only [List.length_take, List.length_map] at hkl
    have hc := OutNum_T v u1 (l ++ nbs ((ns.map Int.toNat).take k)) [ns[k].toNat] (by simp; omega) (by simp; omega)
    rw [e0]
    refine callT.pre (fn_of hc) (CLx.frz 17 rfl (CLx.done ?_))
    simp
    refine callT_ex [(1000, 1000), (1001, 1001)] hc ?_
    simp [u64c]
    intro u2
    have e4 : IntKind.i64.wrap ((k : Int) + 1) = ((k + 1 : Nat) : Int) := by rw [i64_id (by omega) (by omega)]; rfl
    exact SLx.again (k + 1, u2) (by simp only; omega) (by simp only; omega) (by simp [e4]) (by simp [hk1])
  · have e1 : k = ns.length := by omega
    subst e1
    simp

/-- A whole number as one without a sign. -/
def zig (x : Int) : Nat := if 0 ≤ x then (2 * x).toNat else (-(2 * x) - 1).toNat
theorem zig_lt {x : Int} (h : -9223372036854775808 ≤ x) (h' : x ≤ 9223372036854775807) : zig x < 2 ^ 64 := by unfold zig; split <;> omega
theorem zig_bits {x : Int} (h : -9223372036854775808 ≤ x) (h' : x ≤ 9223372036854775807) :
    bits .xor .u64 (IntKind.u64.wrap (IntKind.u64.wrap x * 2 ^ min 1 IntKind.u64.bits)) (IntKind.u64.wrap (x.fdiv (2 ^ min 63 IntKind.i64.bits))) = (zig x : Int) := by
  have m1 : min 1 IntKind.u64.bits = 1 := by decide
  have m2 : min 63 IntKind.i64.bits = 63 := by decide
  rw [m1, m2, Int.fdiv_eq_ediv_of_nonneg _ (by decide)]
  have hd : ∀ y : Int, bits .xor .u64 y 0 = IntKind.u64.wrap y := fun y => by
    show IntKind.u64.wrap ((BitVec.ofInt 64 y ^^^ BitVec.ofInt 64 0).toNat : Nat) = _
    have : BitVec.ofInt 64 0 = 0#64 := by decide
    rw [this, BitVec.xor_zero, BitVec.toNat_ofInt, IntKind.wrap_u64, IntKind.wrap_u64]
    omega
  have hd2 : ∀ y : Nat, y < 2 ^ 64 → bits .xor .u64 (y : Int) 18446744073709551615 = ((2 ^ 64 - 1 - y : Nat) : Int) := fun y hy => by
    show IntKind.u64.wrap ((BitVec.ofInt 64 (y : Int) ^^^ BitVec.ofInt 64 18446744073709551615).toNat : Nat) = _
    have : BitVec.ofInt 64 18446744073709551615 = BitVec.allOnes 64 := by decide
    rw [this, BitVec.xor_allOnes, ofInt_nat, BitVec.toNat_not, BitVec.toNat_ofNat, Nat.mod_eq_of_lt hy]
    exact u64_id (by omega) (by omega)
  by_cases h0 : 0 ≤ x
  · have e1 : x / 2 ^ 63 = 0 := by omega
    rw [e1, u64_id (n := x) h0 (by omega), u64_id (n := 0) (by decide) (by decide), hd, u64_id (n := x * 2 ^ 1) (by omega) (by omega), u64_id (by omega) (by omega), zig, if_pos h0]
    omega
  · have e1 : x / 2 ^ 63 = -1 := by omega
    have e2 : IntKind.u64.wrap (-1) = 18446744073709551615 := by decide
    have e3 : IntKind.u64.wrap (IntKind.u64.wrap x * 2 ^ 1) = ((2 * x + 18446744073709551616).toNat : Int) := by rw [IntKind.wrap_u64, IntKind.wrap_u64]; omega
    rw [e1, e2, e3, hd2 _ (by omega), zig, if_neg h0]
    omega
theorem unzig_zig (x : Int) : unzig (zig x) = x := by unfold unzig zig; split <;> split <;> omega

set_option maxRecDepth 100000 in
theorem OutText_T (v u : Nat) (l : List UInt8) : callT Tryz.prog 49 [.at 1000 v 0] ⟨[], outH v u l⟩ (fun r h => r = .v (.string (bs l)) ∧ h = outH v u l) := by
  refine callT_of_body [0, 2] [1000, 1001] Tryz.func49 rfl (by decide) (by kernel_rfl) rfl ?_
  simp
end Go.Proofs.YtnkdkajllmopaaaGreat.TL

namespace Go.Proofs.YtnkdkajllmopaaaGreat.TL
open Go
set_option linter.unusedVariables false
set_option linter.unusedSimpArgs false

set_option maxRecDepth 100000 in
theorem OutInt_T (v u : Nat) (l : List UInt8) (ns : List Int) (hn : ∀ n ∈ ns, -9223372036854775808 ≤ n ∧ n ≤ 9223372036854775807) (hl : l.length + 10 * ns.length ≤ 1000000000000) :
    callT Tryz.prog 95 [.at 1000 v 0, .isl (ns.map i64c) ns.length] ⟨[], outH v u l⟩ (fun r h => ∃ u', r = .at 1000 v 0 ∧ h = outH v u' (l ++ nbs (ns.map zig))) := by
  refine callT_of_body [0, 1, 4, 6, 7, 8, 9, 10] [1000, 1001] Tryz.func95 rfl (by decide) (by kernel_rfl) rfl ?_
  simp
  refine loopT_of (Nat × Nat) (fun x => x.1 ≤ ns.length) (fun x => ⟨[(0, .at 1000 v 0), (7, .isl (ns.map i64c) ns.length), (8, .v (.int .i64 ns.length)), (9, .v (.int .i64 x.1))], outH v x.2 (l ++ nbs ((ns.map zig).take x.1))⟩) (fun x => ns.length - x.1) (0, u) (by simp) (by simp) (by simp [nbs]) ?_
  rintro ⟨k, u1⟩ hk
  simp only at hk ⊢
  simp
  refine ⟨fun h1 => ?_, fun h1 => ?_⟩
  · have e1 : List.drop k (ns.map i64c) = i64c ns[k] :: List.drop (k + 1) (ns.map i64c) := by
      rw [List.drop_eq_getElem_cons (by simpa using h1)]; simp
    simp [e1, i64c, h1]
    have h2 := hn ns[k] (List.getElem_mem h1)
    rw [zig_bits h2.1 h2.2]
    intro v1
    have hz := zig_lt h2.1 h2.2
    have hk1 : nbs ((ns.map zig).take (k + 1)) = nbs ((ns.map zig).take k) ++ nb (zig ns[k]) := by rw [List.take_succ_eq_append_getElem (by simpa using h1), nbs_snoc]; simp
    have hkl := nbs_len (l := (ns.map zig).take k) fun n h => by
      obtain ⟨x, hx, rfl⟩ := List.mem_map.1 (List.mem_of_mem_take h)
      exact zig_lt (hn x hx).1 (hn x hx).2
    simp only [List.length_take, List.length_map] at hkl
    have hc := OutNum_T v u1 (l ++ nbs ((ns.map zig).take k)) [zig ns[k]] (by simp; omega) (by simp; omega)
    refine callT.pre (fn_of hc) (CLx.frz 21 rfl (CLx.done ?_))
    simp
    refine callT_ex [(1000, 1000), (1001, 1001)] hc ?_
    simp [u64c]
    intro u2
    have e4 : IntKind.i64.wrap ((k : Int) + 1) = ((k + 1 : Nat) : Int) := by rw [i64_id (by omega) (by omega)]; rfl
    exact SLx.again (k + 1, u2) (by simp only; omega) (by simp only; omega) (by simp [e4]) (by simp [hk1])
  · have e1 : k = ns.length := by omega
    subst e1
    simp
end Go.Proofs.YtnkdkajllmopaaaGreat.TL

