/- The roster: what its functions do. -/
import Derived.Test.YtekmhdiajjfgfaaDoorURosB
import Derived.Test.YtekmhdiajjfgfaaDoorTz
import Derived.Test.YtekmhdiajjfgfaaDoorUOut
namespace Go.Proofs.YtekmhdiajjfgfaaDoor.TL
open Go
set_option linter.unusedVariables false
set_option linter.unusedSimpArgs false

/-- Who plays (a set of bits), how many changes there were. -/
structure Ros where
  s : Nat
  e : Int
def u32v (n : Nat) : TV := .v (.int .u32 n)
def Ros.cells (r : Ros) : List TV := [u32v r.s, i64c r.e]
def Ros.has (r : Ros) (p : Int) : Bool := decide (0 ≤ p) && (decide (p < 32) && r.s.testBit p.toNat)

set_option maxRecDepth 100000 in
theorem RHas_T (r : Ros) (p : Int) (hs : r.s < 2 ^ 32) : callT Tryd.prog 18 [.agg r.cells, i64c p] ⟨[], []⟩ (fun x h => x = .v (.bool (r.has p)) ∧ h = []) := by
  refine callT_of_body [0, 1, 2, 4] [] Tryd.func18 rfl (by decide) (by kernel_rfl) rfl ?_
  by_cases h0 : 0 ≤ p
  · by_cases h1 : p < 32
    · have hb := u32_bit r.s p.toNat (by omega) hs
      simp [Ros.cells, u32v, i64c, h0, h1, hb, Ros.has]
    · simp [Ros.cells, u32v, i64c, h0, h1, Ros.has]
  · simp [Ros.cells, u32v, i64c, h0, Ros.has]

@[simp] theorem CloL_i64c : ∀ l : List Int, CloL (l.map i64c)
  | [] => trivial
  | n :: l => ⟨trivial, CloL_i64c l⟩
def addP (s : Nat) (p : Int) : Nat := if 0 ≤ p ∧ p < 32 then s ||| 2 ^ p.toNat else s
def setOf (l : List Int) : Nat := l.foldl addP 0
theorem addP_lt {s : Nat} (p : Int) (h : s < 2 ^ 32) : addP s p < 2 ^ 32 := by
  unfold addP
  split
  · exact Nat.or_lt_two_pow h (pow_lt32 (by omega))
  · exact h
theorem setOf_snoc (l : List Int) (p : Int) : setOf (l ++ [p]) = addP (setOf l) p := by simp [setOf]
theorem setOf_lt : ∀ (l : List Int), setOf l < 2 ^ 32 := fun l => by
  have key : ∀ (l : List Int) (s : Nat), s < 2 ^ 32 → l.foldl addP s < 2 ^ 32 := fun l => by
    induction l with
    | nil => intro s h; exact h
    | cons p l ih => intro s h; exact ih _ (addP_lt p h)
  exact key l 0 (by decide)

set_option maxHeartbeats 1000000 in
set_option maxRecDepth 100000 in
theorem ROf_T (l : List Int) (hl : l.length ≤ 1000000) : callT Tryd.prog 8 [.isl (l.map i64c) l.length] ⟨[], []⟩ (fun x h => x = .agg (Ros.mk (setOf l) 0).cells ∧ h = []) := by
  refine callT_of_body [0, 2, 3, 5, 6, 7, 8, 9, 17] [] Tryd.func8 rfl (by decide) (by kernel_rfl) rfl ?_
  simp
  intro v2 v3
  refine loopT_of (Nat × Nat) (fun x => x.1 ≤ l.length) (fun x => ⟨[(2, .at 2 v2 0), (3, .at 3 v3 0), (6, .isl (l.map i64c) l.length), (7, .v (.int .i64 l.length)), (8, .v (.int .i64 x.1))], [(2, v2, ⟨0, [.v (.int .u32 0), .v (.int .i64 0)]⟩), (3, v3, ⟨0, [u32v (setOf (l.take x.1)), .v (.int .i64 0)]⟩)]⟩) (fun x => l.length - x.1) (0, 0) (by simp) (by simp) (by simp [u32v, setOf]) ?_
  rintro ⟨k, z⟩ hk
  simp only at hk ⊢
  by_cases h1 : k < l.length
  · have hat : List.drop k (l.map i64c) = i64c l[k] :: List.drop (k + 1) (l.map i64c) := by
      rw [List.drop_eq_getElem_cons (by simpa using h1)]; simp
    have hset : setOf (l.take (k + 1)) = addP (setOf (l.take k)) l[k] := by rw [List.take_succ_eq_append_getElem h1, setOf_snoc]
    have e1 : IntKind.i64.wrap ((k : Int) + 1) = ((k + 1 : Nat) : Int) := by rw [i64_id (by omega) (by omega)]; rfl
    by_cases g0 : 0 ≤ l[k]
    · by_cases g1 : l[k] < 32
      · have hone := u32_one l[k].toNat (by omega)
        have hor := u32_or (setOf_lt (l.take k)) (pow_lt32 (p := l[k].toNat) (by omega))
        rw [show ((2 ^ l[k].toNat : Nat) : Int) = (2 : Int) ^ l[k].toNat by simp] at hor hone
        simp only [Int.one_mul] at hone
        simp [h1, hat, i64c, g0, g1, u32v]
        refine draw_g [0, 1, 2, 3] 4 [] (by kernel_rfl) (by kernel_rfl) (by kernel_rfl) ?_
        simp [h1, hat, i64c, g0, g1, u32v, hone, hor]
        exact SLx.again (k + 1, 0) (by simp only; omega) (by simp only; omega) (by simp [e1]) (by simp [hset, u32v, addP, g0, g1])
      · simp [h1, hat, i64c, g0, g1, u32v]
        exact SLx.again (k + 1, 0) (by simp only; omega) (by simp only; omega) (by simp [e1]) (by simp [hset, u32v, addP, g0, g1])
    · simp [h1, hat, i64c, g0, u32v]
      exact SLx.again (k + 1, 0) (by simp only; omega) (by simp only; omega) (by simp [e1]) (by simp [hset, u32v, addP, g0])
  · have : k = l.length := by omega
    subst this
    simp [u32v, Ros.cells, i64c]

/-- How many bits of eight. -/
def pop8 (i : Nat) : Nat := ((List.range 8).filter fun p => i.testBit p).length
def pop32 (i : Nat) : Nat := ((List.range 32).filter fun p => i.testBit p).length
theorem pop8_le (i : Nat) : pop8 i ≤ 8 := by
  have := List.length_filter_le (fun p => i.testBit p) (List.range 8)
  simpa [pop8] using this
set_option maxRecDepth 100000 in
theorem pop_lit : ∀ i, i < 256 → (([0, 1, 1, 2, 1, 2, 2, 3, 1, 2, 2, 3, 2, 3, 3, 4, 1, 2, 2, 3, 2, 3, 3, 4, 2, 3, 3, 4, 3, 4, 4, 5, 1, 2, 2, 3, 2, 3, 3, 4, 2, 3, 3, 4, 3, 4, 4, 5, 2, 3, 3, 4, 3, 4, 4, 5, 3, 4, 4, 5, 4, 5, 5, 6, 1, 2, 2, 3, 2, 3, 3, 4, 2, 3, 3, 4, 3, 4, 4, 5, 2, 3, 3, 4, 3, 4, 4, 5, 3, 4, 4, 5, 4, 5, 5, 6, 2, 3, 3, 4, 3, 4, 4, 5, 3, 4, 4, 5, 4, 5, 5, 6, 3, 4, 4, 5, 4, 5, 5, 6, 4, 5, 5, 6, 5, 6, 6, 7, 1, 2, 2, 3, 2, 3, 3, 4, 2, 3, 3, 4, 3, 4, 4, 5, 2, 3, 3, 4, 3, 4, 4, 5, 3, 4, 4, 5, 4, 5, 5, 6, 2, 3, 3, 4, 3, 4, 4, 5, 3, 4, 4, 5, 4, 5, 5, 6, 3, 4, 4, 5, 4, 5, 5, 6, 4, 5, 5, 6, 5, 6, 6, 7, 2, 3, 3, 4, 3, 4, 4, 5, 3, 4, 4, 5, 4, 5, 5, 6, 3, 4, 4, 5, 4, 5, 5, 6, 4, 5, 5, 6, 5, 6, 6, 7, 3, 4, 4, 5, 4, 5, 5, 6, 4, 5, 5, 6, 5, 6, 6, 7, 4, 5, 5, 6, 5, 6, 6, 7, 5, 6, 6, 7, 6, 7, 7, 8] : List UInt8)[i]?.getD 0).toNat = pop8 i := by decide +kernel
theorem pop_split (n : Nat) : pop32 n = pop8 (n / 2 ^ 24 % 256) + pop8 (n / 2 ^ 16 % 256) + pop8 (n / 2 ^ 8 % 256) + pop8 (n % 256) := by
  have e : List.range 32 = List.range 8 ++ ((List.range 8).map (8 + ·) ++ ((List.range 8).map (16 + ·) ++ (List.range 8).map (24 + ·))) := by decide
  have b0 : ∀ m : Nat, pop8 (m % 256) = pop8 m := fun m => by
    unfold pop8
    congr 1
    refine List.filter_congr fun i hi => ?_
    have h8 : i < 8 := by simpa using hi
    rw [show 256 = 2 ^ 8 from rfl, Nat.testBit_mod_two_pow]
    simp [h8]
  have bk : ∀ k : Nat, ((List.filter (fun p => n.testBit p) ((List.range 8).map (k + ·))).length) = pop8 (n / 2 ^ k) := fun k => by
    unfold pop8
    rw [List.filter_map, List.length_map]
    congr 1
    refine List.filter_congr fun i hi => ?_
    rw [Nat.testBit_div_two_pow, Nat.add_comm]
    rfl
  unfold pop32
  rw [e, List.filter_append, List.filter_append, List.filter_append, List.length_append, List.length_append, List.length_append, bk, bk, bk, b0, b0, b0, b0]
  unfold pop8
  omega

set_option maxRecDepth 100000 in
theorem Ones_T (n : Nat) (h : n < 2 ^ 32) : callT Tryd.prog 42 [u32v n] ⟨[], []⟩ (fun x h => x = i64c (pop32 n) ∧ h = []) := by
  refine callT_of_body [0, 2] [] Tryd.func42 rfl (by decide) (by kernel_rfl) rfl ?_
  have s24 := u32_shr n 24 (by decide)
  have s16 := u32_shr n 16 (by decide)
  have s8 := u32_shr n 8 (by decide)
  have d24 : n / 2 ^ 24 < 256 := by omega
  have a16 := u32_and255 (n / 2 ^ 16) (by omega)
  have a8 := u32_and255 (n / 2 ^ 8) (by omega)
  have a0 := u32_and255 n h
  have m16 : n / 2 ^ 16 % 256 < 256 := Nat.mod_lt _ (by decide)
  have m8 : n / 2 ^ 8 % 256 < 256 := Nat.mod_lt _ (by decide)
  have m0 : n % 256 < 256 := Nat.mod_lt _ (by decide)
  have p24 := pop_lit _ d24
  have p16 := pop_lit _ m16
  have p8 := pop_lit _ m8
  have p0 := pop_lit _ m0
  simp [u32v]
  refine draw_quiet (by kernel_rfl) (by kernel_rfl) (by kernel_rfl) ?_
  simp
  rw [s24, s16, s8, a16, a8, a0]
  simp only [Int.toNat_natCast]
  rw [p24, p16, p8, p0]
  have l24 := pop8_le (n / 2 ^ 24)
  have l16 := pop8_le (n / 2 ^ 16 % 256)
  have l8 := pop8_le (n / 2 ^ 8 % 256)
  have l0 := pop8_le (n % 256)
  have hs := pop_split n
  rw [Nat.mod_eq_of_lt d24] at hs
  rw [u8_id (n := (pop8 (n / 2 ^ 24) : Int) + (pop8 (n / 2 ^ 16 % 256) : Int)) (by omega) (by omega), u8_id (n := (pop8 (n / 2 ^ 24) : Int) + (pop8 (n / 2 ^ 16 % 256) : Int) + (pop8 (n / 2 ^ 8 % 256) : Int)) (by omega) (by omega),
    u8_id (by omega) (by omega), i64_id (by omega) (by omega)]
  refine ⟨⟨by omega, by omega⟩, ⟨by omega, by omega⟩, ⟨by omega, by omega⟩, ⟨by omega, by omega⟩, ?_⟩
  rw [hs]
  simp [i64c]

def Ros.len (r : Ros) : Nat := pop32 r.s
theorem pop32_le (n : Nat) : pop32 n ≤ 32 := by
  have := List.length_filter_le (fun p => n.testBit p) (List.range 32)
  simpa [pop32] using this
set_option maxRecDepth 100000 in
theorem RLen_T (r : Ros) (hs : r.s < 2 ^ 32) : callT Tryd.prog 17 [.agg r.cells] ⟨[], []⟩ (fun x h => x = i64c r.len ∧ h = []) := by
  refine callT_of_body [0, 1, 2] [] Tryd.func17 rfl (by decide) (by kernel_rfl) rfl ?_
  simp [Ros.cells, u32v, i64c]
  intro v
  refine callT_eq [] (Ones_T r.s hs) ?_
  simp [i64c, u32v, Ros.len]
set_option maxRecDepth 100000 in
theorem REpoch_T (r : Ros) : callT Tryd.prog 21 [.agg r.cells] ⟨[], []⟩ (fun x h => x = i64c r.e ∧ h = []) := by
  refine callT_of_body [0, 1, 2] [] Tryd.func21 rfl (by decide) (by kernel_rfl) rfl ?_
  simp [Ros.cells, u32v, i64c]

/-- Who plays, rising. -/
def Ros.all (r : Ros) (n : Nat) : List Int := ((List.range n).filter fun p => r.s.testBit p).map Int.ofNat
theorem Ros.all_succ (r : Ros) (n : Nat) : r.all (n + 1) = if r.s.testBit n then r.all n ++ [(n : Int)] else r.all n := by
  unfold Ros.all
  rw [List.range_succ, List.filter_append]
  by_cases h : r.s.testBit n = true <;> simp [h]
theorem Ros.all_len (r : Ros) (n : Nat) : (r.all n).length ≤ n := by
  have := List.length_filter_le (fun p => r.s.testBit p) (List.range n)
  simpa [Ros.all] using this

set_option maxHeartbeats 1000000 in
set_option maxRecDepth 100000 in
theorem RAll_T (r : Ros) (hs : r.s < 2 ^ 32) : callT Tryd.prog 38 [.agg r.cells] ⟨[], []⟩ (fun x h => x = .isl ((r.all 32).map i64c) (r.all 32).length ∧ h = []) := by
  refine callT.mono (K := fun x h => ∃ u, x = .sl 1001 u 0 (r.all 32).length ∧ h = [(1001, u, ⟨1, (r.all 32).map i64c⟩)]) ?_ fun x h hh => ?_
  · refine callT_of_body [0, 1, 2, 3, 4, 5, 6, 10] [1001] Tryd.func38 rfl (by decide) (by kernel_rfl) rfl ?_
    simp [Ros.cells, u32v, i64c]
    intro v1
    refine ⟨Nat × Nat, fun x => x.1 ≤ 32, fun x => ⟨[(1, .at 1 v1 0), (3, .sl 1001 x.2 0 (r.all x.1).length), (5, .v (.int .i64 x.1))], [(1, v1, ⟨0, [u32v r.s, .v (.int .i64 r.e)]⟩), (1001, x.2, ⟨1, (r.all x.1).map i64c⟩)]⟩, fun x => 32 - x.1, ?_, ?_⟩
    · refine SLx.nil 3 1001 1 (by decide) (by simp) fun u => SLx.fin _ ⟨(0, u), by simp, rfl⟩ (by simp [Ros.all]) (by simp [Ros.all, u32v])
    rintro ⟨k, u⟩ hk
    simp only at hk ⊢
    have hal := r.all_len k
    by_cases h1 : k < 32
    · have h1' : (k : Int) < 32 := by omega
      simp [h1', u32v]
      refine callT_eq [] (RHas_T r k hs) ?_
      have hh : r.has k = r.s.testBit k := by simp [Ros.has, h1']
      have hsu := r.all_succ k
      have e1 : IntKind.i64.wrap ((k : Int) + 1) = ((k + 1 : Nat) : Int) := by rw [i64_id (by omega) (by omega)]; rfl
      by_cases hb : r.s.testBit k = true
      · rw [if_pos hb] at hsu
        simp [Ros.cells, u32v, i64c, hh, hb]
        intro v
        refine ⟨by omega, by omega, fun u2 => ?_⟩
        exact SLx.again (k + 1, u2) (by simp only; omega) (by simp only; omega) (by simp [e1, hsu]) (by simp [hsu, u32v, i64c])
      · rw [if_neg hb] at hsu
        simp [Ros.cells, u32v, i64c, hh, hb]
        exact SLx.again (k + 1, u) (by simp only; omega) (by simp only; omega) (by simp [e1, hsu]) (by simp [hsu, u32v, i64c])
    · have : k = 32 := by omega
      subst this
      simp [u32v, i64c]
  · obtain ⟨u, rfl, rfl⟩ := hh
    refine VLx.frz 1001 rfl (VLx.done ?_)
    simp
end Go.Proofs.YtekmhdiajjfgfaaDoor.TL
