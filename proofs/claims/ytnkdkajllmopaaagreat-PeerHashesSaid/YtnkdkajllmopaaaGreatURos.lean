/- Sets of numbers below 32 as bits: plain laws. -/
/- The roster: what its functions do. -/
/- The roster: votes, changes. -/
/- The roster: may a change be; behind changes. -/
/- The roster: behind changes. -/
/- A change, a roster, read of bytes. -/
/- The reference's roster: Has, Of, Most. -/
/- The law's Same; slices.Equal of numbers; the roster's Same. -/
/- The law's Is: a roster is the document's. -/
/- The law's Few and Told; its awake. -/
/- A roster's bytes. -/
/- A change's bytes. -/
import Derived.Test.YtnkdkajllmopaaaGreatTbits
import Derived.Test.YtnkdkajllmopaaaGreatTz
import Derived.Test.YtnkdkajllmopaaaGreatUOut
import Derived.Test.YtnkdkajllmopaaaGreatUIn
import Derived.Test.YtnkdkajllmopaaaGreatTD
import Derived.Test.YtnkdkajllmopaaaGreatUR2
namespace Go.Proofs.YtnkdkajllmopaaaGreat.TL
open Go
set_option linter.unusedVariables false
set_option linter.unusedSimpArgs false

theorem u32_id {n : Int} (h0 : 0 ≤ n) (h : n < 4294967296) : IntKind.u32.wrap n = n := by rw [IntKind.wrap_u32]; omega
theorem u32_or {a b : Nat} (ha : a < 2 ^ 32) (hb : b < 2 ^ 32) : bits .or .u32 (a : Int) (b : Int) = ((a ||| b : Nat) : Int) := by
  have key : (BitVec.ofInt 32 (a : Int) ||| BitVec.ofInt 32 (b : Int)).toNat = a ||| b := by
    rw [ofInt_nat, ofInt_nat, BitVec.toNat_or, BitVec.toNat_ofNat, BitVec.toNat_ofNat, Nat.mod_eq_of_lt ha, Nat.mod_eq_of_lt hb]
  show IntKind.u32.wrap ((BitVec.ofInt 32 (a : Int) ||| BitVec.ofInt 32 (b : Int)).toNat : Nat) = _
  rw [key]
  have := Nat.or_lt_two_pow ha hb
  exact u32_id (by omega) (by omega)
theorem u32_xor {a b : Nat} (ha : a < 2 ^ 32) (hb : b < 2 ^ 32) : bits .xor .u32 (a : Int) (b : Int) = ((a ^^^ b : Nat) : Int) := by
  have key : (BitVec.ofInt 32 (a : Int) ^^^ BitVec.ofInt 32 (b : Int)).toNat = a ^^^ b := by
    rw [ofInt_nat, ofInt_nat, BitVec.toNat_xor, BitVec.toNat_ofNat, BitVec.toNat_ofNat, Nat.mod_eq_of_lt ha, Nat.mod_eq_of_lt hb]
  show IntKind.u32.wrap ((BitVec.ofInt 32 (a : Int) ^^^ BitVec.ofInt 32 (b : Int)).toNat : Nat) = _
  rw [key]
  have := Nat.xor_lt_two_pow ha hb
  exact u32_id (by omega) (by omega)
theorem u32_and1 (n : Nat) (h : n < 2 ^ 32) : bits .and .u32 (n : Int) 1 = ((n % 2 : Nat) : Int) := by
  have h1 : (BitVec.ofInt 32 1).toNat = 2 ^ 1 - 1 := by decide
  have key : (BitVec.ofInt 32 (n : Int) &&& BitVec.ofInt 32 1).toNat = n % 2 ^ 1 := by
    rw [BitVec.toNat_and, h1, ofInt_nat, BitVec.toNat_ofNat, Nat.mod_eq_of_lt h, Nat.and_two_pow_sub_one_eq_mod]
  show IntKind.u32.wrap ((BitVec.ofInt 32 (n : Int) &&& BitVec.ofInt 32 1).toNat : Nat) = _
  rw [key]
  exact u32_id (by omega) (by omega)
theorem u32_and255 (n : Nat) (h : n < 2 ^ 32) : bits .and .u32 (n : Int) 255 = ((n % 256 : Nat) : Int) := by
  have h1 : (BitVec.ofInt 32 255).toNat = 2 ^ 8 - 1 := by decide
  have key : (BitVec.ofInt 32 (n : Int) &&& BitVec.ofInt 32 255).toNat = n % 2 ^ 8 := by
    rw [BitVec.toNat_and, h1, ofInt_nat, BitVec.toNat_ofNat, Nat.mod_eq_of_lt h, Nat.and_two_pow_sub_one_eq_mod]
  show IntKind.u32.wrap ((BitVec.ofInt 32 (n : Int) &&& BitVec.ofInt 32 255).toNat : Nat) = _
  rw [key]
  exact u32_id (by omega) (by omega)
/-- A bit, by shifting. -/
theorem u32_shr (n p : Nat) (hp : p < 32) : (n : Int).fdiv (2 ^ min p IntKind.u32.bits) = ((n / 2 ^ p : Nat) : Int) := by
  rw [show IntKind.u32.bits = 32 from rfl, Nat.min_eq_left (by omega), Int.fdiv_eq_ediv_of_nonneg _ (Int.pow_nonneg (by decide))]
  simp
theorem u32_bit (n p : Nat) (hp : p < 32) (h : n < 2 ^ 32) : bits .and .u32 ((n : Int).fdiv (2 ^ min p IntKind.u32.bits)) 1 = if n.testBit p then 1 else 0 := by
  have := Nat.div_le_self n (2 ^ p)
  rw [u32_shr n p hp, u32_and1 _ (by omega), Nat.testBit_eq_decide_div_mod_eq]
  by_cases h1 : n / 2 ^ p % 2 = 1
  · simp [h1]
  · have : n / 2 ^ p % 2 = 0 := by omega
    simp [this]
theorem u32_one (p : Nat) (hp : p < 32) : IntKind.u32.wrap (1 * 2 ^ min p IntKind.u32.bits) = ((2 ^ p : Nat) : Int) := by
  rw [show IntKind.u32.bits = 32 from rfl, Nat.min_eq_left (by omega), Int.one_mul]
  have : 2 ^ p ≤ 2 ^ 31 := Nat.pow_le_pow_right (by decide) (by omega)
  have e : (2 : Int) ^ p = ((2 ^ p : Nat) : Int) := by simp
  have h2 : 2 ^ p < 4294967296 := Nat.lt_of_le_of_lt this (by decide)
  rw [e]
  exact u32_id (Int.natCast_nonneg _) (Int.ofNat_lt.2 h2)
theorem pow_lt32 {p : Nat} (hp : p < 32) : 2 ^ p < 2 ^ 32 := Nat.pow_lt_pow_right (by decide) hp
end Go.Proofs.YtnkdkajllmopaaaGreat.TL
namespace Go.Proofs.YtnkdkajllmopaaaGreat.TL
open Go
set_option linter.unusedVariables false
set_option linter.unusedSimpArgs false

/-- Who plays (a set of bits), how many changes there were. -/
structure Ros where
  s : Nat
  e : Int
def u32v (n : Nat) : TV := .v (.int .u32 n)
def Ros.cells (r : Ros) : List TV := [u32v r.s, i64c r.e]
def Ros.has (r : Ros) (p : Int) : Bool := decide (0 ≤ p) && (decide (p < 32) && r.s.testBit p.toNat)

set_option maxRecDepth 100000 in
theorem RHas_T (r : Ros) (p : Int) (hs : r.s < 2 ^ 32) : callT Tryz.prog 32 [.agg r.cells, i64c p] ⟨[], []⟩ (fun x h => x = .v (.bool (r.has p)) ∧ h = []) := by
  refine callT_of_body [0, 1, 2, 4] [] Tryz.func32 rfl (by decide) (by kernel_rfl) rfl ?_
  by_cases h0 : 0 ≤ p
  · by_cases h1 : p < 32
    · have hb := u32_bit r.s p.toNat (by omega) hs
      simp [Ros.cells, u32v, i64c, h0, h1, hb, Ros.has]
    · simp [Ros.cells, u32v, i64c, h0, h1, Ros.has]
  · simp [Ros.cells, u32v, i64c, h0, Ros.has]

@[simp] theorem CloL_i64c : ∀ l : List Int, CloL (l.map i64c)
  | [] => trivial
  | n :: l => ⟨trivial, CloL_i64c l⟩
def addP (s : Nat) (p : Int) : Nat := if 0 ≤ p ∧ p < 32 then s ||| 2 ^ p.toNat else s
def setOf (l : List Int) : Nat := l.foldl addP 0
theorem addP_lt {s : Nat} (p : Int) (h : s < 2 ^ 32) : addP s p < 2 ^ 32 := by
  unfold addP
  split
  · exact Nat.or_lt_two_pow h (pow_lt32 (by omega))
  · exact h
theorem setOf_snoc (l : List Int) (p : Int) : setOf (l ++ [p]) = addP (setOf l) p := by simp [setOf]
theorem setOf_lt : ∀ (l : List Int), setOf l < 2 ^ 32 := fun l => by
  have key : ∀ (l : List Int) (s : Nat), s < 2 ^ 32 → l.foldl addP s < 2 ^ 32 := fun l => by
    induction l with
    | nil => intro s h; exact h
    | cons p l ih => intro s h; exact ih _ (addP_lt p h)
  exact key l 0 (by decide)

set_option maxHeartbeats 1000000 in
set_option maxRecDepth 100000 in
theorem ROf_T (l : List Int) (hl : l.length ≤ 1000000) : callT Tryz.prog 36 [.isl (l.map i64c) l.length] ⟨[], []⟩ (fun x h => x = .agg (Ros.mk (setOf l) 0).cells ∧ h = []) := by
  refine callT_of_body [0, 2, 3, 5, 6, 7, 8, 9, 17] [] Tryz.func36 rfl (by decide) (by kernel_rfl) rfl ?_
  simp
  intro v2 v3
  refine loopT_of (Nat × Nat) (fun x => x.1 ≤ l.length) (fun x => ⟨[(2, .at 2 v2 0), (3, .at 3 v3 0), (6, .isl (l.map i64c) l.length), (7, .v (.int .i64 l.length)), (8, .v (.int .i64 x.1))], [(2, v2, ⟨0, [.v (.int .u32 0), .v (.int .i64 0)]⟩), (3, v3, ⟨0, [u32v (setOf (l.take x.1)), .v (.int .i64 0)]⟩)]⟩) (fun x => l.length - x.1) (0, 0) (by simp) (by simp) (by simp [u32v, setOf]) ?_
  rintro ⟨k, z⟩ hk
  simp only at hk ⊢
  by_cases h1 : k < l.length
  · have hat : List.drop k (l.map i64c) = i64c l[k] :: List.drop (k + 1) (l.map i64c) := by
      rw [List.drop_eq_getElem_cons (by simpa using h1)]; simp
    have hset : setOf (l.take (k + 1)) = addP (setOf (l.take k)) l[k] := by rw [List.take_succ_eq_append_getElem h1, setOf_snoc]
    have e1 : IntKind.i64.wrap ((k : Int) + 1) = ((k + 1 : Nat) : Int) := by rw [i64_id (by omega) (by omega)]; rfl
    by_cases g0 : 0 ≤ l[k]
    · by_cases g1 : l[k] < 32
      · have hone := u32_one l[k].toNat (by omega)
        have hor := u32_or (setOf_lt (l.take k)) (pow_lt32 (p := l[k].toNat) (by omega))
        rw [show ((2 ^ l[k].toNat : Nat) : Int) = (2 : Int) ^ l[k].toNat by simp] at hor hone
        simp only [Int.one_mul] at hone
        simp [h1, hat, i64c, g0, g1, u32v]
        refine draw_g [0, 1, 2, 3] 4 [] (by kernel_rfl) (by kernel_rfl) (by kernel_rfl) ?_
        simp [h1, hat, i64c, g0, g1, u32v, hone, hor]
        exact SLx.again (k + 1, 0) (by simp only; omega) (by simp only; omega) (by simp [e1]) (by simp [hset, u32v, addP, g0, g1])
      · simp [h1, hat, i64c, g0, g1, u32v]
        exact SLx.again (k + 1, 0) (by simp only; omega) (by simp only; omega) (by simp [e1]) (by simp [hset, u32v, addP, g0, g1])
    · simp [h1, hat, i64c, g0, u32v]
      exact SLx.again (k + 1, 0) (by simp only; omega) (by simp only; omega) (by simp [e1]) (by simp [hset, u32v, addP, g0])
  · have : k = l.length := by omega
    subst this
    simp [u32v, Ros.cells, i64c]

/-- How many bits of eight. -/
def pop8 (i : Nat) : Nat := ((List.range 8).filter fun p => i.testBit p).length
def pop32 (i : Nat) : Nat := ((List.range 32).filter fun p => i.testBit p).length
theorem pop8_le (i : Nat) : pop8 i ≤ 8 := by
  have := List.length_filter_le (fun p => i.testBit p) (List.range 8)
  simpa [pop8] using this
set_option maxRecDepth 100000 in
theorem pop_lit : ∀ i, i < 256 → (([0, 1, 1, 2, 1, 2, 2, 3, 1, 2, 2, 3, 2, 3, 3, 4, 1, 2, 2, 3, 2, 3, 3, 4, 2, 3, 3, 4, 3, 4, 4, 5, 1, 2, 2, 3, 2, 3, 3, 4, 2, 3, 3, 4, 3, 4, 4, 5, 2, 3, 3, 4, 3, 4, 4, 5, 3, 4, 4, 5, 4, 5, 5, 6, 1, 2, 2, 3, 2, 3, 3, 4, 2, 3, 3, 4, 3, 4, 4, 5, 2, 3, 3, 4, 3, 4, 4, 5, 3, 4, 4, 5, 4, 5, 5, 6, 2, 3, 3, 4, 3, 4, 4, 5, 3, 4, 4, 5, 4, 5, 5, 6, 3, 4, 4, 5, 4, 5, 5, 6, 4, 5, 5, 6, 5, 6, 6, 7, 1, 2, 2, 3, 2, 3, 3, 4, 2, 3, 3, 4, 3, 4, 4, 5, 2, 3, 3, 4, 3, 4, 4, 5, 3, 4, 4, 5, 4, 5, 5, 6, 2, 3, 3, 4, 3, 4, 4, 5, 3, 4, 4, 5, 4, 5, 5, 6, 3, 4, 4, 5, 4, 5, 5, 6, 4, 5, 5, 6, 5, 6, 6, 7, 2, 3, 3, 4, 3, 4, 4, 5, 3, 4, 4, 5, 4, 5, 5, 6, 3, 4, 4, 5, 4, 5, 5, 6, 4, 5, 5, 6, 5, 6, 6, 7, 3, 4, 4, 5, 4, 5, 5, 6, 4, 5, 5, 6, 5, 6, 6, 7, 4, 5, 5, 6, 5, 6, 6, 7, 5, 6, 6, 7, 6, 7, 7, 8] : List UInt8)[i]?.getD 0).toNat = pop8 i := by decide +kernel
theorem pop_split (n : Nat) : pop32 n = pop8 (n / 2 ^ 24 % 256) + pop8 (n / 2 ^ 16 % 256) + pop8 (n / 2 ^ 8 % 256) + pop8 (n % 256) := by
  have e : List.range 32 = List.range 8 ++ ((List.range 8).map (8 + ·) ++ ((List.range 8).map (16 + ·) ++ (List.range 8).map (24 + ·))) := by decide
  have b0 : ∀ m : Nat, pop8 (m % 256) = pop8 m := fun m => by
    unfold pop8
    congr 1
    refine List.filter_congr fun i hi => ?_
    have h8 : i < 8 := by simpa using hi
    rw [show 256 = 2 ^ 8 from rfl, Nat.testBit_mod_two_pow]
    simp [h8]
  have bk : ∀ k : Nat, ((List.filter (fun p => n.testBit p) ((List.range 8).map (k + ·))).length) = pop8 (n / 2 ^ k) := fun k => by
    unfold pop8
    rw [List.filter_map, List.length_map]
    congr 1
    refine List.filter_congr fun i hi => ?_
    rw [Nat.testBit_div_two_pow, Nat.add_comm]
    rfl
  unfold pop32
  rw [e, List.filter_append, List.filter_append, List.filter_append, List.length_append, List.length_append, List.length_append, bk, bk, bk, b0, b0, b0, b0]
  unfold pop8
  omega

set_option maxRecDepth 100000 in
theorem Ones_T (n : Nat) (h : n < 2 ^ 32) : callT Tryz.prog 59 [u32v n] ⟨[], []⟩ (fun x h => x = i64c (pop32 n) ∧ h = []) := by
  refine callT_of_body [0, 2] [] Tryz.func59 rfl (by decide) (by kernel_rfl) rfl ?_
  have s24 := u32_shr n 24 (by decide)
  have s16 := u32_shr n 16 (by decide)
  have s8 := u32_shr n 8 (by decide)
  have d24 : n / 2 ^ 24 < 256 := by omega
  have a16 := u32_and255 (n / 2 ^ 16) (by omega)
  have a8 := u32_and255 (n / 2 ^ 8) (by omega)
  have a0 := u32_and255 n h
  have m16 : n / 2 ^ 16 % 256 < 256 := Nat.mod_lt _ (by decide)
  have m8 : n / 2 ^ 8 % 256 < 256 := Nat.mod_lt _ (by decide)
  have m0 : n % 256 < 256 := Nat.mod_lt _ (by decide)
  have p24 := pop_lit _ d24
  have p16 := pop_lit _ m16
  have p8 := pop_lit _ m8
  have p0 := pop_lit _ m0
  simp [u32v]
  refine draw_quiet (by kernel_rfl) (by kernel_rfl) (by kernel_rfl) ?_
  simp
  rw [s24, s16, s8, a16, a8, a0]
  simp only [Int.toNat_natCast]
  rw [p24, p16, p8, p0]
  have l24 := pop8_le (n / 2 ^ 24)
  have l16 := pop8_le (n / 2 ^ 16 % 256)
  have l8 := pop8_le (n / 2 ^ 8 % 256)
  have l0 := pop8_le (n % 256)
  have hs := pop_split n
  rw [Nat.mod_eq_of_lt d24] at hs
  rw [u8_id (n := (pop8 (n / 2 ^ 24) : Int) + (pop8 (n / 2 ^ 16 % 256) : Int)) (by omega) (by omega), u8_id (n := (pop8 (n / 2 ^ 24) : Int) + (pop8 (n / 2 ^ 16 % 256) : Int) + (pop8 (n / 2 ^ 8 % 256) : Int)) (by omega) (by omega),
    u8_id (by omega) (by omega), i64_id (by omega) (by omega)]
  refine ⟨⟨by omega, by omega⟩, ⟨by omega, by omega⟩, ⟨by omega, by omega⟩, ⟨by omega, by omega⟩, ?_⟩
  rw [hs]
  simp [i64c]

def Ros.len (r : Ros) : Nat := pop32 r.s
theorem pop32_le (n : Nat) : pop32 n ≤ 32 := by
  have := List.length_filter_le (fun p => n.testBit p) (List.range 32)
  simpa [pop32] using this
set_option maxRecDepth 100000 in
theorem RLen_T (r : Ros) (hs : r.s < 2 ^ 32) : callT Tryz.prog 37 [.agg r.cells] ⟨[], []⟩ (fun x h => x = i64c r.len ∧ h = []) := by
  refine callT_of_body [0, 1, 2] [] Tryz.func37 rfl (by decide) (by kernel_rfl) rfl ?_
  simp [Ros.cells, u32v, i64c]
  intro v
  refine callT_eq [] (Ones_T r.s hs) ?_
  simp [i64c, u32v, Ros.len]
/-- Who plays, rising. -/
def Ros.all (r : Ros) (n : Nat) : List Int := ((List.range n).filter fun p => r.s.testBit p).map Int.ofNat
theorem Ros.all_succ (r : Ros) (n : Nat) : r.all (n + 1) = if r.s.testBit n then r.all n ++ [(n : Int)] else r.all n := by
  unfold Ros.all
  rw [List.range_succ, List.filter_append]
  by_cases h : r.s.testBit n = true <;> simp [h]
theorem Ros.all_len (r : Ros) (n : Nat) : (r.all n).length ≤ n := by
  have := List.length_filter_le (fun p => r.s.testBit p) (List.range n)
  simpa [Ros.all] using this

set_option maxHeartbeats 1000000 in
set_option maxRecDepth 100000 in
theorem RAll_T (r : Ros) (hs : r.s < 2 ^ 32) : callT Tryz.prog 63 [.agg r.cells] ⟨[], []⟩ (fun x h => x = .isl ((r.all 32).map i64c) (r.all 32).length ∧ h = []) := by
  refine callT.mono (K := fun x h => ∃ u, x = .sl 1001 u 0 (r.all 32).length ∧ h = [(1001, u, ⟨1, (r.all 32).map i64c⟩)]) ?_ fun x h hh => ?_
  · refine callT_of_body [0, 1, 2, 3, 4, 5, 6, 10] [1001] Tryz.func63 rfl (by decide) (by kernel_rfl) rfl ?_
    simp [Ros.cells, u32v, i64c]
    intro v1
    refine ⟨Nat × Nat, fun x => x.1 ≤ 32, fun x => ⟨[(1, .at 1 v1 0), (3, .sl 1001 x.2 0 (r.all x.1).length), (5, .v (.int .i64 x.1))], [(1, v1, ⟨0, [u32v r.s, .v (.int .i64 r.e)]⟩), (1001, x.2, ⟨1, (r.all x.1).map i64c⟩)]⟩, fun x => 32 - x.1, ?_, ?_⟩
    · refine SLx.nil 3 1001 1 (by decide) (by simp) fun u => SLx.fin _ ⟨(0, u), by simp, rfl⟩ (by simp [Ros.all]) (by simp [Ros.all, u32v])
    rintro ⟨k, u⟩ hk
    simp only at hk ⊢
    have hal := r.all_len k
    by_cases h1 : k < 32
    · have h1' : (k : Int) < 32 := by omega
      simp [h1', u32v]
      refine callT_eq [] (RHas_T r k hs) ?_
      have hh : r.has k = r.s.testBit k := by simp [Ros.has, h1']
      have hsu := r.all_succ k
      have e1 : IntKind.i64.wrap ((k : Int) + 1) = ((k + 1 : Nat) : Int) := by rw [i64_id (by omega) (by omega)]; rfl
      by_cases hb : r.s.testBit k = true
      · rw [if_pos hb] at hsu
        simp [Ros.cells, u32v, i64c, hh, hb]
        intro v
        refine ⟨by omega, by omega, fun u2 => ?_⟩
        exact SLx.again (k + 1, u2) (by simp only; omega) (by simp only; omega) (by simp [e1, hsu]) (by simp [hsu, u32v, i64c])
      · rw [if_neg hb] at hsu
        simp [Ros.cells, u32v, i64c, hh, hb]
        exact SLx.again (k + 1, u) (by simp only; omega) (by simp only; omega) (by simp [e1, hsu]) (by simp [hsu, u32v, i64c])
    · have : k = 32 := by omega
      subst this
      simp [u32v, i64c]
  · obtain ⟨u, rfl, rfl⟩ := hh
    refine VLx.frz 1001 rfl (VLx.done ?_)
    simp
end Go.Proofs.YtnkdkajllmopaaaGreat.TL

namespace Go.Proofs.YtnkdkajllmopaaaGreat.TL
open Go
set_option linter.unusedVariables false
set_option linter.unusedSimpArgs false

def Ros.okAt (r : Ros) (no : Int) (l : List Int) (i : Nat) : Bool := r.has (l.getD i 0) && (!decide (l.getD i 0 = no) && (decide (i = 0) || decide (l.getD (i - 1) 0 < l.getD i 0)))
def Ros.most (r : Ros) (no : Int) (l : List Int) : Bool := ((List.range l.length).all fun i => r.okAt no l i) && decide (r.len < 2 * l.length)
theorem most_no {r : Ros} {no : Int} {l : List Int} {k : Nat} (hk : k < l.length) (h : r.okAt no l k = false) : r.most no l = false := by
  unfold Ros.most
  rw [Bool.and_eq_false_iff]
  left
  rw [List.all_eq_false]
  exact ⟨k, by simpa using hk, by simp [h]⟩

set_option maxHeartbeats 2000000 in
set_option maxRecDepth 100000 in
theorem RMost_T (r : Ros) (no : Int) (l : List Int) (hs : r.s < 2 ^ 32) (hl : l.length ≤ 1000000) : callT Tryz.prog 81 [.agg r.cells, i64c no, .isl (l.map i64c) l.length] ⟨[], []⟩ (fun x h => x = .v (.bool (r.most no l)) ∧ h = []) := by
  refine callT_of_body [0, 1, 2, 3, 6, 7, 8, 9, 10, 11, 12, 37] [] Tryz.func81 rfl (by decide) (by kernel_rfl) rfl ?_
  simp [Ros.cells, u32v, i64c]
  intro v3
  refine loopT_of (Nat × Nat) (fun x => x.1 ≤ l.length ∧ ∀ i, i < x.1 → r.okAt no l i = true) (fun x => ⟨[(1, i64c no), (2, .isl (l.map i64c) l.length), (3, .at 3 v3 0), (9, .isl (l.map i64c) l.length), (10, .v (.int .i64 l.length)), (11, .v (.int .i64 x.1))], [(3, v3, ⟨0, [u32v r.s, i64c r.e]⟩)]⟩) (fun x => l.length - x.1) (0, 0) ⟨by simp, fun i hi => by simp at hi⟩ (by simp [i64c]) (by simp [i64c, u32v]) ?_
  rintro ⟨k, z⟩ ⟨hk, hok⟩
  simp only at hk hok ⊢
  by_cases h1 : k < l.length
  · have hat : List.drop k (l.map i64c) = i64c l[k] :: List.drop (k + 1) (l.map i64c) := by
      rw [List.drop_eq_getElem_cons (by simpa using h1)]; simp
    have hg : l.getD k 0 = l[k] := by simp [h1]
    have e1 : IntKind.i64.wrap ((k : Int) + 1) = ((k + 1 : Nat) : Int) := by rw [i64_id (by omega) (by omega)]; rfl
    simp [h1, hat, i64c, u32v]
    refine callT_eq [] (RHas_T r l[k] hs) ?_
    by_cases g1 : r.has l[k] = true
    · by_cases g2 : l[k] = no
      · have hno := most_no (r := r) (no := no) h1 (by simp only [Ros.okAt, hg]; simp [g2])
        simp [Ros.cells, u32v, i64c, g1, g2, hno]
      · by_cases g3 : k = 0
        · subst g3
          have hk0 : r.okAt no l 0 = true := by simp only [Ros.okAt, hg]; simp [g1, g2]
          simp [Ros.cells, u32v, i64c, g1, g2]
          have hk1 : ∀ i, i < 1 → r.okAt no l i = true := fun i hi => by
            rw [show i = 0 by omega]; exact hk0
          exact SLx.again (1, 0) ⟨by simp only; omega, hk1⟩ (by simp only; omega) (by simp [i64c, show IntKind.i64.wrap 1 = 1 by decide]) (by simp [u32v, i64c])
        · have e2 : IntKind.i64.wrap ((k : Int) - 1) = ((k - 1 : Nat) : Int) := by rw [i64_id (by omega) (by omega)]; omega
          have h2 : k - 1 < l.length := by omega
          have hat2 : List.drop (k - 1) (l.map i64c) = i64c l[k - 1] :: List.drop (k - 1 + 1) (l.map i64c) := by
            rw [List.drop_eq_getElem_cons (by simpa using h2)]; simp
          have hg2 : l.getD (k - 1) 0 = l[k - 1] := by simp [h2]
          have g3' : 0 < k := by omega
          by_cases g4 : l[k] ≤ l[k - 1]
          · have hno := most_no (r := r) (no := no) h1 (by
              have : ¬ l[k - 1] < l[k] := by omega
              simp only [Ros.okAt, hg, hg2]
              simp [g3, this])
            simp [Ros.cells, u32v, i64c, g1, g2, g3', e2, h2, hat2, g4, hno]
          · have hkk : r.okAt no l k = true := by
              have : l[k - 1] < l[k] := by omega
              simp only [Ros.okAt, hg, hg2]
              simp [g1, g2, this]
            simp [Ros.cells, u32v, i64c, g1, g2, g3', e2, h2, hat2, g4]
            exact SLx.again (k + 1, 0) ⟨by simp only; omega, fun i hi => by
              simp only at hi
              by_cases hik : i = k
              · subst hik; exact hkk
              · exact hok i (by omega)⟩ (by simp only; omega) (by simp [i64c, e1]) (by simp [u32v, i64c])
    · have hno := most_no (r := r) (no := no) h1 (by simp only [Ros.okAt, hg]; simp [g1])
      simp [Ros.cells, u32v, i64c, g1, hno]
  · have : k = l.length := by omega
    subst this
    have hall : ((List.range l.length).all fun i => r.okAt no l i) = true := by
      rw [List.all_eq_true]
      exact fun i hi => hok i (by simpa using hi)
    have hle := pop32_le r.s
    have e2 : IntKind.i64.wrap (2 * (l.length : Int)) = 2 * (l.length : Int) := i64_id (by omega) (by omega)
    simp [u32v, i64c]
    refine callT_eq [] (RLen_T r hs) ?_
    simp [Ros.cells, u32v, i64c, e2, Ros.most, hall]
    omega
end Go.Proofs.YtnkdkajllmopaaaGreat.TL

namespace Go.Proofs.YtnkdkajllmopaaaGreat.TL
open Go
set_option linter.unusedVariables false
set_option linter.unusedSimpArgs false

/-- A change. -/
structure Chg where
  k : Int
  p : Int
  v : List Int
def Chg.cells (c : Chg) : List TV := [i64c c.k, i64c c.p, .isl (c.v.map i64c) c.v.length]
def Ros.chk (r : Ros) (c : Chg) : Int :=
  if c.k < 1 ∨ 3 < c.k then 7
  else if c.p < 0 ∨ 32 ≤ c.p ∨ c.p = 0 ∧ c.k ≠ 1 ∨ c.k ≠ 3 ∧ 0 < c.v.length then 4
  else if c.k = 1 then (if r.has c.p = true then 10 else 0)
  else if r.has c.p = false then 13
  else if c.k = 3 ∧ r.most c.p c.v = false then 15 else 0

set_option maxHeartbeats 2000000 in
set_option maxRecDepth 100000 in
theorem RChk_T (r : Ros) (c : Chg) (hs : r.s < 2 ^ 32) (hl : c.v.length ≤ 1000000) : callT Tryz.prog 61 [.agg r.cells, .agg c.cells] ⟨[], []⟩ (fun x h => x = i64c (r.chk c) ∧ h = []) := by
  obtain ⟨k, p, v⟩ := c
  simp only at hl
  refine callT_of_body [0, 1, 2, 3, 4, 5, 14, 44, 54, 65] [] Tryz.func61 rfl (by decide) (by kernel_rfl) rfl ?_
  by_cases k1 : k < 1
  · simp [Ros.cells, Chg.cells, u32v, i64c, k1, Ros.chk]
  by_cases k2 : 3 < k
  · simp [Ros.cells, Chg.cells, u32v, i64c, k1, k2, Ros.chk]
  by_cases p1 : p < 0
  · simp [Ros.cells, Chg.cells, u32v, i64c, k1, k2, p1, Ros.chk]
  by_cases p2 : 32 ≤ p
  · simp [Ros.cells, Chg.cells, u32v, i64c, k1, k2, p1, p2, Ros.chk]
  have hk : k = 1 ∨ k = 2 ∨ k = 3 := by omega
  rcases hk with rfl | rfl | rfl
  · by_cases p4 : v = []
    · simp [Ros.cells, Chg.cells, u32v, i64c, p1, p2, p4]
      intro v2 v3
      refine callT_eq [] (RHas_T r p hs) ?_
      by_cases h1 : r.has p = true
      · simp [Ros.cells, u32v, i64c, p1, p2, p4, h1, Ros.chk]
      · simp [Ros.cells, u32v, i64c, p1, p2, p4, h1, Ros.chk]
    · have p4' : 0 < v.length := List.length_pos_iff.2 p4
      simp [Ros.cells, Chg.cells, u32v, i64c, p1, p2, p4, p4', Ros.chk]
  · by_cases p3 : p = 0
    · simp [Ros.cells, Chg.cells, u32v, i64c, p3, Ros.chk]
    by_cases p4 : v = []
    · simp [Ros.cells, Chg.cells, u32v, i64c, p1, p2, p3, p4]
      intro v2 v3
      refine callT_eq [] (RHas_T r p hs) ?_
      by_cases h1 : r.has p = true
      · simp [Ros.cells, u32v, i64c, p1, p2, p3, p4, h1, Ros.chk]
      · simp [Ros.cells, u32v, i64c, p1, p2, p3, p4, h1, Ros.chk]
    · have p4' : 0 < v.length := List.length_pos_iff.2 p4
      simp [Ros.cells, Chg.cells, u32v, i64c, p1, p2, p3, p4, p4', Ros.chk]
  · by_cases p3 : p = 0
    · simp [Ros.cells, Chg.cells, u32v, i64c, p3, Ros.chk]
    simp [Ros.cells, Chg.cells, u32v, i64c, p1, p2, p3]
    intro v2 v3
    refine callT_eq [] (RHas_T r p hs) ?_
    by_cases h1 : r.has p = true
    · simp [Ros.cells, u32v, i64c, p1, p2, p3, h1]
      refine callT_eq [] (RMost_T r p v hs hl) ?_
      by_cases h2 : r.most p v = true
      · simp [Ros.cells, u32v, i64c, p1, p2, p3, h1, h2, Ros.chk]
      · simp [Ros.cells, u32v, i64c, p1, p2, p3, h1, h2, Ros.chk]
    · simp [Ros.cells, u32v, i64c, p1, p2, p3, h1, Ros.chk]
end Go.Proofs.YtnkdkajllmopaaaGreat.TL

namespace Go.Proofs.YtnkdkajllmopaaaGreat.TL
open Go
set_option linter.unusedVariables false
set_option linter.unusedSimpArgs false

def rowG (l : List Chg) : List TV := (l.map Chg.cells).flatten
@[simp] theorem rowG_nil : rowG [] = [] := rfl
@[simp] theorem rowG_cons (o : Chg) (l : List Chg) : rowG (o :: l) = o.cells ++ rowG l := rfl
@[simp] theorem rowG_length : ∀ l : List Chg, (rowG l).length = l.length * 3
  | [] => rfl
  | o :: l => by rw [rowG_cons, List.length_append, rowG_length l, List.length_cons, show o.cells.length = 3 from rfl]; omega
@[simp] theorem rowG_CloL : ∀ l : List Chg, CloL (rowG l)
  | [] => trivial
  | o :: l => ⟨trivial, trivial, ⟨CloL_i64c o.v, rowG_CloL l⟩⟩
theorem rowG_drop : ∀ (n : Nat) (l : List Chg), (rowG l).drop (n * 3) = rowG (l.drop n)
  | 0, l => by simp
  | n + 1, [] => by simp [rowG]
  | n + 1, c :: l => by
    rw [show (n + 1) * 3 = n * 3 + 3 by omega]
    have := rowG_drop n l
    simpa [rowG, Chg.cells] using this
theorem rowG_at {l : List Chg} {k : Nat} (h : k < l.length) : List.drop (k * 3) (rowG l) = i64c l[k].k :: i64c l[k].p :: .isl (l[k].v.map i64c) l[k].v.length :: rowG (l.drop (k + 1)) := by
  rw [rowG_drop, List.drop_eq_getElem_cons h]
  rfl
def Ros.app (r : Ros) (c : Chg) : Ros := ⟨r.s ^^^ 2 ^ c.p.toNat, r.e + 1⟩
def Ros.goW (was : Ros) : Ros → List Chg → Ros × Int
  | r, [] => (r, 0)
  | r, c :: l => if r.chk c ≠ 0 then (was, r.chk c) else Ros.goW was (r.app c) l
theorem chk_rng {r : Ros} {c : Chg} (h : r.chk c = 0) : 0 ≤ c.p ∧ c.p < 32 := by
  unfold Ros.chk at h
  split at h
  · cases h
  split at h
  · cases h
  omega
theorem app_lt {r : Ros} {c : Chg} (hs : r.s < 2 ^ 32) (h : r.chk c = 0) : (r.app c).s < 2 ^ 32 := Nat.xor_lt_two_pow hs (pow_lt32 (by have := chk_rng h; omega))

set_option maxHeartbeats 2000000 in
set_option maxRecDepth 100000 in
theorem RWith_T (r : Ros) (l : List Chg) (hs : r.s < 2 ^ 32) (hl : l.length ≤ 1000000) (hv : ∀ c ∈ l, c.v.length ≤ 1000000) (he : 0 ≤ r.e) (he2 : r.e ≤ 9223372036853775807) : callT Tryz.prog 62 [.agg r.cells, .isl (rowG l) l.length] ⟨[], []⟩ (fun x h => x = .tup [.agg (r.goW r l).1.cells, i64c (r.goW r l).2] ∧ h = []) := by
  refine callT_of_body [0, 1, 2, 4, 5, 6, 8, 9, 11, 12, 13, 14, 21] [] Tryz.func62 rfl (by decide) (by kernel_rfl) rfl ?_
  simp [Ros.cells, u32v, i64c]
  intro v2 v4 v6
  refine loopT_of (Nat × Ros × Nat) (fun x => x.1 ≤ l.length ∧ r.goW x.2.1 (l.drop x.1) = r.goW r l ∧ x.2.1.s < 2 ^ 32 ∧ x.2.1.e = r.e + x.1) (fun x => ⟨[(2, .at 2 v2 0), (4, .at 4 v4 0), (6, .at 6 v6 0), (11, .isl (rowG l) l.length), (12, .v (.int .i64 l.length)), (13, .v (.int .i64 x.1))], [(2, v2, ⟨0, [u32v x.2.1.s, i64c x.2.1.e]⟩), (4, v4, ⟨0, [.v (.int .u32 0), .v (.int .i64 0)]⟩), (6, v6, ⟨0, [u32v r.s, i64c r.e]⟩)]⟩) (fun x => l.length - x.1) (0, r, 0) ⟨by simp, by simp, hs, by simp⟩ (by simp) (by simp [u32v, i64c]) ?_
  rintro ⟨k, w, z⟩ ⟨hk, hw, hws, hwe⟩
  simp only at hk hw hws hwe ⊢
  by_cases h1 : k < l.length
  · have hat := rowG_at h1
    have hvk := hv l[k] (List.getElem_mem h1)
    rw [List.drop_eq_getElem_cons h1] at hw
    have e1 : IntKind.i64.wrap ((k : Int) + 1) = ((k + 1 : Nat) : Int) := by rw [i64_id (by omega) (by omega)]; rfl
    simp [h1, hat, i64c, u32v]
    intro v8
    refine callT_eq [] (RChk_T w l[k] hws hvk) ?_
    by_cases hc : w.chk l[k] = 0
    · have hr := chk_rng hc
      have hone := u32_one l[k].p.toNat (by omega)
      have hx := u32_xor hws (pow_lt32 (p := l[k].p.toNat) (by omega))
      rw [show ((2 ^ l[k].p.toNat : Nat) : Int) = (2 : Int) ^ l[k].p.toNat by simp] at hx hone
      simp only [Int.one_mul] at hone
      have e2 : IntKind.i64.wrap (w.e + 1) = w.e + 1 := i64_id (by omega) (by omega)
      simp [Ros.cells, Chg.cells, u32v, i64c, hc]
      refine draw_g [0, 1, 2, 3, 4] 5 [] (by kernel_rfl) (by kernel_rfl) (by kernel_rfl) ?_
      simp [hr, hone, hx, e2]
      have hgo : r.goW (w.app l[k]) (l.drop (k + 1)) = r.goW r l := by rw [← hw, Ros.goW, if_neg (by simp [hc])]
      exact SLx.again (k + 1, w.app l[k], 0) ⟨by simp only; omega, hgo, app_lt hws hc, by simp only [Ros.app]; omega⟩ (by simp only; omega) (by simp [e1]) (by simp [Ros.app, u32v, i64c])
    · have hno : r.goW r l = (r, w.chk l[k]) := by rw [← hw, Ros.goW, if_pos hc]
      simp [Ros.cells, Chg.cells, u32v, i64c, hc, hno]
  · have : k = l.length := by omega
    subst this
    have hno : r.goW r l = (w, 0) := by rw [← hw]; simp [Ros.goW]
    simp [Ros.cells, u32v, i64c, hno]
end Go.Proofs.YtnkdkajllmopaaaGreat.TL
namespace Go.Proofs.YtnkdkajllmopaaaGreat.TL
open Go
set_option linter.unusedVariables false
set_option linter.unusedSimpArgs false

theorem In.count_rng' (i : In) (m : Int) (hm : 0 ≤ m) : 0 ≤ (i.count m).2 ∧ (i.count m).2 ≤ m := by
  unfold In.count
  split
  · exact ⟨Int.le_refl _, hm⟩
  · exact ⟨by simp, by simp only; omega⟩
def In.ros (i : In) : In × Ros :=
  let a := i.count 4294967295
  let b := a.1.count 1099511627776
  if b.1.e ≠ 0 then (b.1, ⟨0, 0⟩) else (b.1, ⟨a.2.toNat, b.2⟩)

set_option maxHeartbeats 1000000 in
set_option maxRecDepth 100000 in
theorem RRead_T (v : Nat) (i : In) : callT Tryz.prog 89 [.at 1000 v 0] ⟨[], [(1000, v, inB i)]⟩ (fun x h => x = .agg i.ros.2.cells ∧ h = [(1000, v, inB i.ros.1)]) := by
  refine callT_of_body [0, 2, 3, 12] [1000] Tryz.func89 rfl (by decide) (by kernel_rfl) rfl ?_
  have h1 := i.count_rng' 4294967295 (by decide)
  have h2 := (i.count 4294967295).1.count_rng' 1099511627776 (by decide)
  have e1 : IntKind.u32.wrap (i.count 4294967295).2 = (i.count 4294967295).2 := u32_id h1.1 (by omega)
  have e2 : max (i.count 4294967295).2 0 = (i.count 4294967295).2 := by omega
  simp
  intro v2
  refine callT_eq [(1000, 1000)] (Count_T v i 4294967295 (by decide)) ?_
  simp
  refine callT_eq [(1000, 1000)] (Count_T v (i.count 4294967295).1 1099511627776 (by decide)) ?_
  simp [e1]
  intro v3
  refine callT_eq [(1000, 1000)] (Err_T v ((i.count 4294967295).1.count 1099511627776).1) ?_
  by_cases h5 : ((i.count 4294967295).1.count 1099511627776).1.e = 0
  · simp [In.ros, h5, Ros.cells, u32v, i64c, e2]
  · simp [In.ros, h5, Ros.cells, u32v, i64c]

theorem VLx.nilA {h : Heap} {S : TV → Heap → Prop} {a b : TV} (k : VLx (.agg [a, b, .isl [] 0]) h S) : VLx (.agg [a, b, .v (.slice none 0 0)]) h S := fun e E w v H hv => by
  refine k e E w v H ?_
  simp only [RV, RVl] at hv ⊢
  obtain ⟨cs, h1, h2, ⟨y0, g0, k0⟩, ⟨y1, g1, k1⟩, ⟨y2, g2, k2⟩, h3⟩ := hv
  exact ⟨cs, h1, h2, ⟨y0, g0, k0⟩, ⟨y1, g1, k1⟩, ⟨y2, g2, .inl ⟨trivial, trivial, k2⟩⟩, h3⟩
def In.vot : Nat → In → List Int → In × List Int
  | 0, i, l => (i, l)
  | n + 1, i, l => if i.e ≠ 0 then (i, l) else In.vot n (i.count 31).1 (l ++ [(i.count 31).2])
def In.chg (i : In) : In × Chg :=
  let k := i.count 3
  let p := k.1.count 31
  let n := p.1.count 32
  let q := In.vot n.2.toNat n.1 []
  if q.1.e ≠ 0 then (q.1, ⟨0, 0, []⟩) else (q.1, ⟨k.2, p.2, q.2⟩)

end Go.Proofs.YtnkdkajllmopaaaGreat.TL
namespace Go.Proofs.YtnkdkajllmopaaaGreat.TL
open Go
set_option linter.unusedVariables false
set_option linter.unusedSimpArgs false

theorem isl_at {l : List Int} {k : Nat} (h : k < l.length) : List.drop k (l.map i64c) = i64c l[k] :: List.drop (k + 1) (l.map i64c) := by
  rw [List.drop_eq_getElem_cons (by simpa using h)]; simp
abbrev rosL (l : List Int) (e : Int) : TV := .agg [.isl (l.map i64c) l.length, i64c e]
abbrev rRos (r : Ros) : TV := rosL (r.all 32) r.e
theorem mem_all {r : Ros} {p : Int} : p ∈ r.all 32 ↔ r.has p = true := by
  unfold Ros.all Ros.has
  simp only [List.mem_map, List.mem_filter, List.mem_range, Bool.and_eq_true, decide_eq_true_eq]
  constructor
  · rintro ⟨k, ⟨h1, h2⟩, rfl⟩
    exact ⟨Int.natCast_nonneg k, by simp; omega, by simpa using h2⟩
  · rintro ⟨h0, h1, h2⟩
    exact ⟨p.toNat, ⟨by omega, h2⟩, by simp; omega⟩
theorem all_length (r : Ros) : (r.all 32).length = r.len := by simp [Ros.all, Ros.len, pop32]

theorem setOf_bit (l : List Int) (k : Nat) (hk : k < 32) : (setOf l).testBit k = decide ((k : Int) ∈ l) := by
  have key : ∀ (l : List Int) (s : Nat), (l.foldl addP s).testBit k = (s.testBit k || decide ((k : Int) ∈ l)) := fun l => by
    induction l with
    | nil => intro s; simp
    | cons p l ih =>
      intro s
      rw [List.foldl_cons, ih]
      unfold addP
      by_cases hp : 0 ≤ p ∧ p < 32
      · rw [if_pos hp, Nat.testBit_or, Nat.testBit_two_pow]
        by_cases hkp : p.toNat = k
        · have : (k : Int) = p := by omega
          simp [hkp, this]
        · have : ¬ (k : Int) = p := by omega
          simp [hkp, this]
      · rw [if_neg hp]
        have : ¬ (k : Int) = p := by omega
        simp [this]
  simpa [setOf] using key l 0

end Go.Proofs.YtnkdkajllmopaaaGreat.TL
namespace Go.Proofs.YtnkdkajllmopaaaGreat.TL
open Go
set_option linter.unusedVariables false
set_option linter.unusedSimpArgs false

theorem list_ext_lt {a b : List Int} (h : a.length = b.length) (hh : ∀ i (ha : i < a.length) (hb : i < b.length), i < b.length → a[i] = b[i]) : a = b :=
  List.ext_getElem h fun i h1 h2 => hh i h1 h2 h2

set_option maxHeartbeats 1000000 in
set_option maxRecDepth 100000 in
theorem Equal_T (a b : List Int) (hb : a.length ≤ 1000000) : callT Tryz.prog 64 [.isl (a.map i64c) a.length, .isl (b.map i64c) b.length] ⟨[], []⟩ (fun x h => x = .v (.bool (decide (a = b))) ∧ h = []) := by
  refine callT_of_body [0, 1, 4, 5, 10, 12, 13, 14, 24] [] Tryz.func64 rfl (by decide) (by kernel_rfl) rfl ?_
  by_cases hl : a.length = b.length
  · simp [i64c, hl]
    refine loopT_of (Nat × Nat) (fun x => x.1 ≤ b.length ∧ ∀ i (ha : i < a.length) (hb : i < b.length), i < x.1 → a[i] = b[i]) (fun x => ⟨[(0, .isl (a.map i64c) b.length), (1, .isl (b.map i64c) b.length), (12, .v (.int .i64 b.length)), (13, .v (.int .i64 x.1))], []⟩) (fun x => b.length - x.1) (0, 0) ⟨by simp, fun i _ _ hi => by simp at hi⟩ (by simp) (by simp) ?_
    rintro ⟨k, z⟩ ⟨hk, hok⟩
    simp only at hk hok ⊢
    by_cases h1 : k < b.length
    · have h2 : k < a.length := by omega
      have hle : b.length ≤ a.length := by omega
      have hat := isl_at h2
      have hat2 := isl_at h1
      have e1 : IntKind.i64.wrap ((k : Int) + 1) = ((k + 1 : Nat) : Int) := by rw [i64_id (by omega) (by omega)]; rfl
      simp [h1, i64c]
      refine draw_quiet (by kernel_rfl) (by kernel_rfl) (by kernel_rfl) ?_
      by_cases g : a[k] = b[k]
      · simp [h1, hat, hat2, i64c, g, hle]
        have hok2 : ∀ i (ha : i < a.length) (hb : i < b.length), i < k + 1 → a[i] = b[i] := fun i ha hb hi => by
          by_cases hik : i = k
          · subst hik; exact g
          · exact hok i ha hb (by omega)
        exact SLx.again (k + 1, 0) ⟨by simp only; omega, hok2⟩ (by simp only; omega) (by simp [e1]) (by simp)
      · have hne : ¬ a = b := fun h => g (by subst h; rfl)
        simp [h1, hat, hat2, i64c, g, hne, hle]
    · have hk2 : k = b.length := by omega
      subst hk2
      have heq : a = b := List.ext_getElem hl fun i ha hb => hok i ha hb hb
      simp [i64c, heq]
  · have hne : ¬ a = b := fun h => hl (by rw [h])
    have hl2 : ¬ (a.length : Int) = b.length := by omega
    simp [i64c, hl, hl2, hne]

end Go.Proofs.YtnkdkajllmopaaaGreat.TL
namespace Go.Proofs.YtnkdkajllmopaaaGreat.TL
open Go
set_option linter.unusedVariables false
set_option linter.unusedSimpArgs false

/-- How many zeros below the lowest one of 32 bits. -/
def tz (n : Nat) : Nat := ((List.range 32).takeWhile fun p => !n.testBit p).length
theorem takeWhile_range (f : Nat → Bool) : ∀ (m : Nat), let k := ((List.range m).takeWhile f).length; k ≤ m ∧ (∀ i, i < k → f i = true) ∧ (k < m → f k = false)
  | 0 => by simp
  | m + 1 => by
    have ih := takeWhile_range f m
    simp only at ih ⊢
    rw [List.range_succ, List.takeWhile_append]
    by_cases h : (List.takeWhile f (List.range m)).length = (List.range m).length
    · rw [if_pos h]
      rw [List.length_range] at h
      rw [h] at ih
      cases hm : f m with
      | true =>
        simp [List.takeWhile_cons, hm]
        intro i hi
        by_cases him : i = m
        · subst him; exact hm
        · exact ih.2.1 i (by omega)
      | false =>
        simp [List.takeWhile_cons, hm]
        exact ih.2.1
    · rw [if_neg h]
      rw [List.length_range] at h
      exact ⟨by omega, ih.2.1, fun _ => ih.2.2 (by omega)⟩
theorem tz_le (n : Nat) : tz n ≤ 32 := (takeWhile_range _ 32).1
theorem tz_low {n i : Nat} (h : i < tz n) : n.testBit i = false := by simpa using (takeWhile_range (fun p => !n.testBit p) 32).2.1 i h
theorem tz_at {n : Nat} (h : tz n < 32) : n.testBit (tz n) = true := by
  have := (takeWhile_range (fun p => !n.testBit p) 32).2.2 h
  simpa [tz] using this
theorem tz_lt {n : Nat} (h0 : n ≠ 0) (h : n < 2 ^ 32) : tz n < 32 := by
  rcases Nat.lt_or_ge (tz n) 32 with hh | hh
  · exact hh
  · exact absurd (Nat.eq_of_testBit_eq fun i => by
      rw [Nat.zero_testBit]
      by_cases hi : i < 32
      · exact tz_low (by omega)
      · exact Nat.testBit_lt_two_pow (Nat.lt_of_lt_of_le h (Nat.pow_le_pow_right (by decide) (by omega)))) h0
theorem low_bv (n : Nat) (h0 : n ≠ 0) (h : n < 2 ^ 32) : (BitVec.ofNat 32 n &&& -(BitVec.ofNat 32 n)).toNat = 2 ^ tz n := by
  have hlt := tz_lt h0 h
  refine Nat.eq_of_testBit_eq fun i => ?_
  rw [BitVec.testBit_toNat, BitVec.getLsbD_and, BitVec.getLsbD_neg, Nat.testBit_two_pow]
  by_cases hi : i < 32
  · have hj : ∀ j, j < 32 → (BitVec.ofNat 32 n).getLsbD j = n.testBit j := fun j hj => by rw [BitVec.getLsbD_ofNat]; simp [hj]
    rw [hj i hi]
    by_cases h1 : tz n = i
    · subst h1
      have hno : ¬ ∃ j, j < tz n ∧ (BitVec.ofNat 32 n).getLsbD j = true := fun ⟨j, hj1, hj2⟩ => by
        rw [hj j (by omega), tz_low hj1] at hj2; cases hj2
      simp [tz_at hlt, hi, hno]
    · rcases Nat.lt_or_ge i (tz n) with h2 | h2
      · simp [tz_low h2, h1]
      · have hex : ∃ j, j < i ∧ (BitVec.ofNat 32 n).getLsbD j = true := ⟨tz n, by omega, by rw [hj _ hlt]; exact tz_at hlt⟩
        simp [h1, hi, hex]
  · have : ¬ tz n = i := by omega
    have h2 : (BitVec.ofNat 32 n).getLsbD i = false := BitVec.getLsbD_of_ge _ _ (by omega)
    simp [this, h2]
theorem u32_low (n : Nat) (h0 : n ≠ 0) (h : n < 2 ^ 32) : bits .and .u32 (n : Int) (IntKind.u32.wrap (-(n : Int))) = ((2 ^ tz n : Nat) : Int) := by
  have e : BitVec.ofInt 32 (IntKind.u32.wrap (-(n : Int))) = -(BitVec.ofNat 32 n) := by
    rw [IntKind.wrap_u32]
    rw [← ofInt_nat, ← BitVec.ofInt_neg]
    refine BitVec.eq_of_toInt_eq ?_
    rw [BitVec.toInt_ofInt, BitVec.toInt_ofInt]
    exact Int.emod_bmod (-(n : Int)) (2 ^ 32)
  show IntKind.u32.wrap ((BitVec.ofInt 32 (n : Int) &&& BitVec.ofInt 32 (IntKind.u32.wrap (-(n : Int)))).toNat : Nat) = _
  rw [e, ofInt_nat, low_bv n h0 h]
  have := pow_lt32 (tz_lt h0 h)
  generalize 2 ^ tz n = m at this ⊢
  exact u32_id (by omega) (by omega)
def dbi (k : Nat) : Nat := ((2 ^ k * 125613361) % 2 ^ 32) / 2 ^ 27
theorem dbi_eq : ∀ k, k < 32 → (IntKind.u32.wrap (((2 ^ k : Nat) : Int) * 125613361)).fdiv (2 ^ min 27 IntKind.u32.bits) = ((dbi k : Nat) : Int) := by decide +kernel

theorem tz_0 : tz 0 = 32 := by decide +kernel
theorem dbi_lt : ∀ k, k < 32 → dbi k < 32 := by decide +kernel
def dbt : List Int := [0, 1, 28, 2, 29, 14, 24, 3, 30, 22, 20, 15, 25, 17, 4, 8, 31, 27, 13, 23, 21, 19, 16, 7, 26, 12, 18, 6, 11, 5, 10, 9]
theorem dbt_nat : ∀ k, k < 32 → dbt[dbi k]? = some (k : Int) := by decide +kernel
theorem dbt_at (k : Nat) (h : k < 32) : (dbt.map fun n => TV.v (.int .u8 n))[dbi k]? = some (TV.v (.int .u8 (k : Int))) := by
  rw [List.getElem?_map, dbt_nat k h]; rfl

theorem u32_not (s : Nat) (h : s < 2 ^ 32) : bits .xor .u32 (if IntKind.u32.signed = true then -1 else IntKind.u32.max) (s : Int) = ((2 ^ 32 - 1 - s : Nat) : Int) := by
  have e : (if IntKind.u32.signed = true then (-1 : Int) else IntKind.u32.max) = ((2 ^ 32 - 1 : Nat) : Int) := by decide
  rw [e, u32_xor (by decide) h]
  congr 1
  have := BitVec.toNat_not (x := BitVec.ofNat 32 s)
  rw [BitVec.toNat_ofNat, Nat.mod_eq_of_lt h] at this
  rw [← this, BitVec.not_def, BitVec.toNat_xor, BitVec.toNat_allOnes, BitVec.toNat_ofNat, Nat.mod_eq_of_lt h]
def Ros.free (r : Ros) : Nat := tz (2 ^ 32 - 1 - r.s)
theorem not_bit {s : Nat} (h : s < 2 ^ 32) (i : Nat) : (2 ^ 32 - 1 - s).testBit i = (decide (i < 32) && !s.testBit i) := by
  rw [show 2 ^ 32 - 1 - s = 2 ^ 32 - (s + 1) by omega]
  exact Nat.testBit_two_pow_sub_succ h i
theorem free_le (r : Ros) : r.free ≤ 32 := tz_le _
theorem free_low {r : Ros} (hs : r.s < 2 ^ 32) {i : Nat} (h : i < r.free) : r.s.testBit i = true := by
  have h1 := tz_low h
  have h2 := free_le r
  rw [not_bit hs] at h1
  have : i < 32 := by omega
  simpa [this] using h1
theorem free_at {r : Ros} (hs : r.s < 2 ^ 32) (h : r.free < 32) : r.s.testBit r.free = false := by
  have h1 := tz_at h
  rw [not_bit hs] at h1
  have h2 : (decide (tz (2 ^ 32 - 1 - r.s) < 32)) = true := decide_eq_true h
  simp only [h2, Bool.true_and, Bool.not_eq_true'] at h1
  exact h1
theorem free_len {r : Ros} (hs : r.s < 2 ^ 32) : (r.len < 32) ↔ (r.free < 32) := by
  constructor
  · intro h
    rcases Nat.lt_or_ge r.free 32 with hh | hh
    · exact hh
    · have : r.len = 32 := by
        unfold Ros.len pop32
        rw [List.filter_eq_self.2 fun i hi => free_low hs (by have := List.mem_range.1 hi; omega)]
        simp
      omega
  · intro h
    have h1 : ((List.range 32).filter fun p => r.s.testBit p).length < (List.range 32).length := List.length_filter_lt_length_iff_exists.2 ⟨r.free, by simpa using h, by simp [free_at hs h]⟩
    simpa [Ros.len, pop32] using h1
theorem dec_all {r : Ros} (p : Int) : decide (p ∈ r.all 32) = r.has p := by
  by_cases h : r.has p = true
  · simp [h, mem_all.2 h]
  · have : p ∉ r.all 32 := fun hh => h (mem_all.1 hh)
    simp [h, this]
theorem free_has {r : Ros} (hs : r.s < 2 ^ 32) {p : Int} (h0 : 0 ≤ p) (h : p < r.free) : r.has p = true := by
  have := free_le r
  have h1 := free_low hs (i := p.toNat) (by omega)
  have : p < 32 := by omega
  simp [Ros.has, h0, this, h1]
theorem free_no {r : Ros} (hs : r.s < 2 ^ 32) (h : r.free < 32) : r.has (r.free : Int) = false := by
  have h1 := free_at hs h
  simp [Ros.has, h1]

end Go.Proofs.YtnkdkajllmopaaaGreat.TL
namespace Go.Proofs.YtnkdkajllmopaaaGreat.TL
open Go
set_option linter.unusedVariables false
set_option linter.unusedSimpArgs false

def few1 (c : Chg) : Chg := ⟨c.k, c.p, c.v.take 34⟩
def few (l : List Chg) : List Chg := (l.take 10).map few1
theorem few_length (l : List Chg) : (few l).length = min 10 l.length := by simp [few]
theorem rowG_snoc (l : List Chg) (c : Chg) : rowG (l ++ [c]) = rowG l ++ c.cells := by simp [rowG]

set_option maxHeartbeats 2000000 in
set_option maxRecDepth 100000 in
theorem Few_T (l : List Chg) (hl : l.length ≤ maxLen) : callT Tryz.prog 60 [.isl (rowG l) l.length] ⟨[], []⟩ (fun x h => x = .isl (rowG (few l)) (few l).length ∧ h = []) := by
  refine callT.mono (K := fun x h => ∃ u, x = .sl 1001 u 0 (few l).length ∧ h = [(1001, u, ⟨3, rowG (few l)⟩)]) ?_ fun x h hh => ?_
  · refine callT_of_body [0, 2, 3, 4, 5, 13, 23] [1001] Tryz.func60 rfl (by decide) (by kernel_rfl) rfl ?_
    simp
    refine ⟨Nat × Nat, fun x => x.1 ≤ 10 ∧ x.1 ≤ l.length, fun x => ⟨[(0, .isl (rowG l) l.length), (3, .sl 1001 x.2 0 (few (l.take x.1)).length), (4, .v (.int .i64 x.1))], [(1001, x.2, ⟨3, rowG (few (l.take x.1))⟩)]⟩, fun x => 10 - x.1, ?_, ?_⟩
    · refine SLx.nil 3 1001 3 (by decide) (by simp) fun u => SLx.fin _ ⟨(0, u), by simp, rfl⟩ (by simp [few]) (by simp [few])
    rintro ⟨k, u⟩ ⟨hk, hkl⟩
    simp only at hk hkl ⊢
    by_cases g : k < l.length
    · by_cases g2 : k < 10
      · have hat := rowG_at g
        have hsn : few (l.take (k + 1)) = few (l.take k) ++ [few1 l[k]] := by
          unfold few
          rw [List.take_take, List.take_take, Nat.min_eq_right (by omega), Nat.min_eq_right (by omega), List.take_succ_eq_append_getElem g, List.map_append]
          rfl
        have hfl := few_length (l.take k)
        generalize few (l.take k) = F at hsn hfl ⊢
        have htk : List.take (F.length * 3) (rowG F) = rowG F := List.take_of_length_le (by simp)
        have hF : F.length ≤ 10 := by omega
        have g2' : (k : Int) < 10 := by omega
        have e1 : IntKind.i64.wrap ((k : Int) + 1) = ((k + 1 : Nat) : Int) := by rw [i64_id (by omega) (by omega)]; rfl
        by_cases g3 : 34 < l[k].v.length
        · have g3' : (34 : Int) < l[k].v.length := by omega
          have hm : min 34 l[k].v.length = 34 := by omega
          simp [g, g2, g2', hat, i64c]
          intro v5
          simp [g3, g3', i64c]
          refine ⟨⟨by omega, fun v => ⟨by omega, by omega, fun u2 => ?_⟩⟩, fun hh => by omega⟩
          exact SLx.again (k + 1, u2) ⟨by simp only; omega, by simp only; omega⟩ (by simp only; omega) (by simp [e1, hsn]) (by simp [hsn, rowG_snoc, htk, few1, Chg.cells, i64c, hm])
        · have g3' : ¬ (34 : Int) < l[k].v.length := by omega
          have hm : min 34 l[k].v.length = l[k].v.length := by omega
          have ht : List.take 34 l[k].v = l[k].v := List.take_of_length_le (by omega)
          simp [g, g2, g2', hat, i64c]
          intro v5
          simp [g3, g3', i64c]
          refine fun _ v => ⟨by omega, by omega, fun u2 => ?_⟩
          exact SLx.again (k + 1, u2) ⟨by simp only; omega, by simp only; omega⟩ (by simp only; omega) (by simp [e1, hsn]) (by simp [hsn, rowG_snoc, htk, few1, Chg.cells, i64c, hm, ht])
      · have : ¬ (k : Int) < 10 := by omega
        have h10 : few (l.take k) = few l := by
          unfold few
          rw [List.take_take, Nat.min_eq_left (by omega)]
        simp [g, g2, this, h10]
    · have : k = l.length := by omega
      subst this
      simp
  · obtain ⟨u, rfl, rfl⟩ := hh
    refine VLx.frz 1001 rfl (VLx.done ?_)
    have htk : List.take ((few l).length * 3) (rowG (few l)) = rowG (few l) := List.take_of_length_le (by simp)
    simp [htk]

end Go.Proofs.YtnkdkajllmopaaaGreat.TL
namespace Go.Proofs.YtnkdkajllmopaaaGreat.TL
open Go
set_option linter.unusedVariables false
set_option linter.unusedSimpArgs false

def md (s k : Nat) : Nat := s % 2 ^ k
def pw (k : Nat) : Nat := 2 ^ k
theorem md_0 (s : Nat) : md s 0 = 0 := by simp [md, Nat.mod_one]
theorem pw_0 : pw 0 = 1 := rfl
theorem pw_succ (k : Nat) : pw (k + 1) = pw k * 2 := Nat.pow_succ 2 k
theorem pw_le {k : Nat} (h : k ≤ 32) : pw k ≤ 4294967296 := Nat.pow_le_pow_right (n := 2) (by decide) h
theorem md_le (s k : Nat) : md s k ≤ s := Nat.mod_le _ _
theorem md_32 {s : Nat} (h : s < 2 ^ 32) : md s 32 = s := Nat.mod_eq_of_lt h
theorem md_succ (s k : Nat) : md s (k + 1) = if s.testBit k then md s k + pw k else md s k := by
  unfold md pw
  rw [Nat.pow_succ, Nat.mod_mul, Nat.testBit_eq_decide_div_mod_eq]
  by_cases h : s / 2 ^ k % 2 = 1
  · simp [h]
  · have : s / 2 ^ k % 2 = 0 := by omega
    simp [this]

theorem has_nat1 {r : Ros} {i : Nat} (hi : i < 32) : ((i : Int) ∈ r.all 32) ↔ r.s.testBit i = true := by
  rw [mem_all]
  have : (i : Int) < 32 := by omega
  simp [Ros.has, this]
def Ros.bytes (r : Ros) : List UInt8 := nb r.s ++ nb r.e.toNat
set_option maxHeartbeats 1000000 in
set_option maxRecDepth 100000 in
theorem RPut_T (v u : Nat) (b : List UInt8) (r : Ros) (hs : r.s < 2 ^ 32) (he : 0 ≤ r.e) (he2 : r.e ≤ 9223372036854775807) (hb : b.length ≤ 1000000) : callT Tryz.prog 46 [.agg r.cells, .at 1000 v 0] ⟨[], outH v u b⟩ (fun x h => ∃ u', x = .tup [] ∧ h = outH v u' (b ++ r.bytes)) := by
  refine callT_of_body [0, 1, 2] [1000, 1001] Tryz.func46 rfl (by decide) (by kernel_rfl) rfl ?_
  simp [Ros.cells, u32v, i64c]
  intro v2
  have e1 : IntKind.u64.wrap (r.s : Int) = r.s := u64_id (by omega) (by omega)
  have hl1 := nb_len10 (n := r.s) (by omega)
  refine draw_g [0, 1, 2, 3, 4, 6, 7, 8, 5] 9 [(5, [0, 1, 2, 3, 4])] (by kernel_rfl) (by kernel_rfl) (by kernel_rfl) ?_
  simp [e1]
  refine callT_ex [(1000, 1000), (1001, 1001)] (OutNum_T v u b [r.s] (by simp; omega) (by simp; omega)) ?_
  simp [u64c, i64c]
  intro u2
  refine callT_ex [(1000, 1000), (1001, 1001)] (OutCount_T v u2 (b ++ nb r.s) [r.e] (by simp; omega) (by simp; omega)) ?_
  simp [u64c, i64c, Ros.bytes]
end Go.Proofs.YtnkdkajllmopaaaGreat.TL
namespace Go.Proofs.YtnkdkajllmopaaaGreat.TL
open Go
set_option linter.unusedVariables false
set_option linter.unusedSimpArgs false

def Chg.bytes (c : Chg) : List UInt8 := nbs ([c.k, c.p, (c.v.length : Int)].map Int.toNat) ++ nbs (c.v.map Int.toNat)
structure Chg.small (c : Chg) : Prop where
  k : c.k < 2 ^ 63
  p : c.p < 2 ^ 63
  v : ∀ n ∈ c.v, n < 2 ^ 63
  l : c.v.length ≤ 1000

theorem nbs_take (l : List Int) {k : Nat} (h : k < l.length) : nbs ((l.map Int.toNat).take (k + 1)) = nbs ((l.map Int.toNat).take k) ++ nb l[k].toNat := by
  rw [List.take_succ_eq_append_getElem (by simpa using h), nbs_snoc]; simp

end Go.Proofs.YtnkdkajllmopaaaGreat.TL
