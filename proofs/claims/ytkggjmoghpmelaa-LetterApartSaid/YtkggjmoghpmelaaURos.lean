/- The roster: what its functions do. -/
import Derived.Test.YtkggjmoghpmelaaURosB
import Derived.Test.YtkggjmoghpmelaaTz
import Derived.Test.YtkggjmoghpmelaaUOut
/- The roster: votes, changes. -/
/- The roster: may a change be; behind changes. -/
/- The roster: behind changes. -/
namespace Go.Proofs.Ytkggjmoghpmelaa.TL
open Go
set_option linter.unusedVariables false
set_option linter.unusedSimpArgs false

/-- Who plays (a set of bits), how many changes there were. -/
structure Ros where
  s : Nat
  e : Int
def u32v (n : Nat) : TV := .v (.int .u32 n)
def Ros.cells (r : Ros) : List TV := [u32v r.s, i64c r.e]
def Ros.has (r : Ros) (p : Int) : Bool := decide (0 ≤ p) && (decide (p < 32) && r.s.testBit p.toNat)

set_option maxRecDepth 100000 in
theorem RHas_T (r : Ros) (p : Int) (hs : r.s < 2 ^ 32) : callT Try.prog 76 [.agg r.cells, i64c p] ⟨[], []⟩ (fun x h => x = .v (.bool (r.has p)) ∧ h = []) := by
  refine callT_of_body [0, 1, 2, 4] [] Try.func76 rfl (by decide) (by kernel_rfl) rfl ?_
  by_cases h0 : 0 ≤ p
  · by_cases h1 : p < 32
    · have hb := u32_bit r.s p.toNat (by omega) hs
      simp [Ros.cells, u32v, i64c, h0, h1, hb, Ros.has]
    · simp [Ros.cells, u32v, i64c, h0, h1, Ros.has]
  · simp [Ros.cells, u32v, i64c, h0, Ros.has]

@[simp] theorem CloL_i64c : ∀ l : List Int, CloL (l.map i64c)
  | [] => trivial
  | n :: l => ⟨trivial, CloL_i64c l⟩
def addP (s : Nat) (p : Int) : Nat := if 0 ≤ p ∧ p < 32 then s ||| 2 ^ p.toNat else s
def setOf (l : List Int) : Nat := l.foldl addP 0
theorem addP_lt {s : Nat} (p : Int) (h : s < 2 ^ 32) : addP s p < 2 ^ 32 := by
  unfold addP
  split
  · exact Nat.or_lt_two_pow h (pow_lt32 (by omega))
  · exact h
theorem setOf_snoc (l : List Int) (p : Int) : setOf (l ++ [p]) = addP (setOf l) p := by simp [setOf]
theorem setOf_lt : ∀ (l : List Int), setOf l < 2 ^ 32 := fun l => by
  have key : ∀ (l : List Int) (s : Nat), s < 2 ^ 32 → l.foldl addP s < 2 ^ 32 := fun l => by
    induction l with
    | nil => intro s h; exact h
    | cons p l ih => intro s h; exact ih _ (addP_lt p h)
  exact key l 0 (by decide)

set_option maxHeartbeats 1000000 in
set_option maxRecDepth 100000 in
theorem ROf_T (l : List Int) (hl : l.length ≤ 1000000) : callT Try.prog 35 [.isl (l.map i64c) l.length] ⟨[], []⟩ (fun x h => x = .agg (Ros.mk (setOf l) 0).cells ∧ h = []) := by
  refine callT_of_body [0, 2, 3, 5, 6, 7, 8, 9, 17] [] Try.func35 rfl (by decide) (by kernel_rfl) rfl ?_
  simp
  intro v2 v3
  refine loopT_of (Nat × Nat) (fun x => x.1 ≤ l.length) (fun x => ⟨[(2, .at 2 v2 0), (3, .at 3 v3 0), (6, .isl (l.map i64c) l.length), (7, .v (.int .i64 l.length)), (8, .v (.int .i64 x.1))], [(2, v2, ⟨0, [.v (.int .u32 0), .v (.int .i64 0)]⟩), (3, v3, ⟨0, [u32v (setOf (l.take x.1)), .v (.int .i64 0)]⟩)]⟩) (fun x => l.length - x.1) (0, 0) (by simp) (by simp) (by simp [u32v, setOf]) ?_
  rintro ⟨k, z⟩ hk
  simp only at hk ⊢
  by_cases h1 : k < l.length
  · have hat : List.drop k (l.map i64c) = i64c l[k] :: List.drop (k + 1) (l.map i64c) := by
      rw [List.drop_eq_getElem_cons (by simpa using h1)]; simp
    have hset : setOf (l.take (k + 1)) = addP (setOf (l.take k)) l[k] := by rw [List.take_succ_eq_append_getElem h1, setOf_snoc]
    have e1 : IntKind.i64.wrap ((k : Int) + 1) = ((k + 1 : Nat) : Int) := by rw [i64_id (by omega) (by omega)]; rfl
    by_cases g0 : 0 ≤ l[k]
    · by_cases g1 : l[k] < 32
      · have hone := u32_one l[k].toNat (by omega)
        have hor := u32_or (setOf_lt (l.take k)) (pow_lt32 (p := l[k].toNat) (by omega))
        rw [show ((2 ^ l[k].toNat : Nat) : Int) = (2 : Int) ^ l[k].toNat by simp] at hor hone
        simp only [Int.one_mul] at hone
        simp [h1, hat, i64c, g0, g1, u32v]
        refine draw_g [0, 1, 2, 3] 4 [] (by kernel_rfl) (by kernel_rfl) (by kernel_rfl) ?_
        simp [h1, hat, i64c, g0, g1, u32v, hone, hor]
        exact SLx.again (k + 1, 0) (by simp only; omega) (by simp only; omega) (by simp [e1]) (by simp [hset, u32v, addP, g0, g1])
      · simp [h1, hat, i64c, g0, g1, u32v]
        exact SLx.again (k + 1, 0) (by simp only; omega) (by simp only; omega) (by simp [e1]) (by simp [hset, u32v, addP, g0, g1])
    · simp [h1, hat, i64c, g0, u32v]
      exact SLx.again (k + 1, 0) (by simp only; omega) (by simp only; omega) (by simp [e1]) (by simp [hset, u32v, addP, g0])
  · have : k = l.length := by omega
    subst this
    simp [u32v, Ros.cells, i64c]

/-- How many bits of eight. -/
def pop8 (i : Nat) : Nat := ((List.range 8).filter fun p => i.testBit p).length
def pop32 (i : Nat) : Nat := ((List.range 32).filter fun p => i.testBit p).length
theorem pop8_le (i : Nat) : pop8 i ≤ 8 := by
  have := List.length_filter_le (fun p => i.testBit p) (List.range 8)
  simpa [pop8] using this
set_option maxRecDepth 100000 in
theorem pop_lit : ∀ i, i < 256 → (([0, 1, 1, 2, 1, 2, 2, 3, 1, 2, 2, 3, 2, 3, 3, 4, 1, 2, 2, 3, 2, 3, 3, 4, 2, 3, 3, 4, 3, 4, 4, 5, 1, 2, 2, 3, 2, 3, 3, 4, 2, 3, 3, 4, 3, 4, 4, 5, 2, 3, 3, 4, 3, 4, 4, 5, 3, 4, 4, 5, 4, 5, 5, 6, 1, 2, 2, 3, 2, 3, 3, 4, 2, 3, 3, 4, 3, 4, 4, 5, 2, 3, 3, 4, 3, 4, 4, 5, 3, 4, 4, 5, 4, 5, 5, 6, 2, 3, 3, 4, 3, 4, 4, 5, 3, 4, 4, 5, 4, 5, 5, 6, 3, 4, 4, 5, 4, 5, 5, 6, 4, 5, 5, 6, 5, 6, 6, 7, 1, 2, 2, 3, 2, 3, 3, 4, 2, 3, 3, 4, 3, 4, 4, 5, 2, 3, 3, 4, 3, 4, 4, 5, 3, 4, 4, 5, 4, 5, 5, 6, 2, 3, 3, 4, 3, 4, 4, 5, 3, 4, 4, 5, 4, 5, 5, 6, 3, 4, 4, 5, 4, 5, 5, 6, 4, 5, 5, 6, 5, 6, 6, 7, 2, 3, 3, 4, 3, 4, 4, 5, 3, 4, 4, 5, 4, 5, 5, 6, 3, 4, 4, 5, 4, 5, 5, 6, 4, 5, 5, 6, 5, 6, 6, 7, 3, 4, 4, 5, 4, 5, 5, 6, 4, 5, 5, 6, 5, 6, 6, 7, 4, 5, 5, 6, 5, 6, 6, 7, 5, 6, 6, 7, 6, 7, 7, 8] : List UInt8)[i]?.getD 0).toNat = pop8 i := by decide +kernel
theorem pop_split (n : Nat) : pop32 n = pop8 (n / 2 ^ 24 % 256) + pop8 (n / 2 ^ 16 % 256) + pop8 (n / 2 ^ 8 % 256) + pop8 (n % 256) := by
  have e : List.range 32 = List.range 8 ++ ((List.range 8).map (8 + ·) ++ ((List.range 8).map (16 + ·) ++ (List.range 8).map (24 + ·))) := by decide
  have b0 : ∀ m : Nat, pop8 (m % 256) = pop8 m := fun m => by
    unfold pop8
    congr 1
    refine List.filter_congr fun i hi => ?_
    have h8 : i < 8 := by simpa using hi
    rw [show 256 = 2 ^ 8 from rfl, Nat.testBit_mod_two_pow]
    simp [h8]
  have bk : ∀ k : Nat, ((List.filter (fun p => n.testBit p) ((List.range 8).map (k + ·))).length) = pop8 (n / 2 ^ k) := fun k => by
    unfold pop8
    rw [List.filter_map, List.length_map]
    congr 1
    refine List.filter_congr fun i hi => ?_
    rw [Nat.testBit_div_two_pow, Nat.add_comm]
    rfl
  unfold pop32
  rw [e, List.filter_append, List.filter_append, List.filter_append, List.length_append, List.length_append, List.length_append, bk, bk, bk, b0, b0, b0, b0]
  unfold pop8
  omega

set_option maxRecDepth 100000 in
theorem Ones_T (n : Nat) (h : n < 2 ^ 32) : callT Try.prog 86 [u32v n] ⟨[], []⟩ (fun x h => x = i64c (pop32 n) ∧ h = []) := by
  refine callT_of_body [0, 2] [] Try.func86 rfl (by decide) (by kernel_rfl) rfl ?_
  have s24 := u32_shr n 24 (by decide)
  have s16 := u32_shr n 16 (by decide)
  have s8 := u32_shr n 8 (by decide)
  have d24 : n / 2 ^ 24 < 256 := by omega
  have a16 := u32_and255 (n / 2 ^ 16) (by omega)
  have a8 := u32_and255 (n / 2 ^ 8) (by omega)
  have a0 := u32_and255 n h
  have m16 : n / 2 ^ 16 % 256 < 256 := Nat.mod_lt _ (by decide)
  have m8 : n / 2 ^ 8 % 256 < 256 := Nat.mod_lt _ (by decide)
  have m0 : n % 256 < 256 := Nat.mod_lt _ (by decide)
  have p24 := pop_lit _ d24
  have p16 := pop_lit _ m16
  have p8 := pop_lit _ m8
  have p0 := pop_lit _ m0
  simp [u32v]
  refine draw_quiet (by kernel_rfl) (by kernel_rfl) (by kernel_rfl) ?_
  simp
  rw [s24, s16, s8, a16, a8, a0]
  simp only [Int.toNat_natCast]
  rw [p24, p16, p8, p0]
  have l24 := pop8_le (n / 2 ^ 24)
  have l16 := pop8_le (n / 2 ^ 16 % 256)
  have l8 := pop8_le (n / 2 ^ 8 % 256)
  have l0 := pop8_le (n % 256)
  have hs := pop_split n
  rw [Nat.mod_eq_of_lt d24] at hs
  rw [u8_id (n := (pop8 (n / 2 ^ 24) : Int) + (pop8 (n / 2 ^ 16 % 256) : Int)) (by omega) (by omega), u8_id (n := (pop8 (n / 2 ^ 24) : Int) + (pop8 (n / 2 ^ 16 % 256) : Int) + (pop8 (n / 2 ^ 8 % 256) : Int)) (by omega) (by omega),
    u8_id (by omega) (by omega), i64_id (by omega) (by omega)]
  refine ⟨⟨by omega, by omega⟩, ⟨by omega, by omega⟩, ⟨by omega, by omega⟩, ⟨by omega, by omega⟩, ?_⟩
  rw [hs]
  simp [i64c]

def Ros.len (r : Ros) : Nat := pop32 r.s
theorem pop32_le (n : Nat) : pop32 n ≤ 32 := by
  have := List.length_filter_le (fun p => n.testBit p) (List.range 32)
  simpa [pop32] using this
set_option maxRecDepth 100000 in
theorem RLen_T (r : Ros) (hs : r.s < 2 ^ 32) : callT Try.prog 85 [.agg r.cells] ⟨[], []⟩ (fun x h => x = i64c r.len ∧ h = []) := by
  refine callT_of_body [0, 1, 2] [] Try.func85 rfl (by decide) (by kernel_rfl) rfl ?_
  simp [Ros.cells, u32v, i64c]
  intro v
  refine callT_eq [] (Ones_T r.s hs) ?_
  simp [i64c, u32v, Ros.len]
/-- Who plays, rising. -/
def Ros.all (r : Ros) (n : Nat) : List Int := ((List.range n).filter fun p => r.s.testBit p).map Int.ofNat
theorem Ros.all_succ (r : Ros) (n : Nat) : r.all (n + 1) = if r.s.testBit n then r.all n ++ [(n : Int)] else r.all n := by
  unfold Ros.all
  rw [List.range_succ, List.filter_append]
  by_cases h : r.s.testBit n = true <;> simp [h]
theorem Ros.all_len (r : Ros) (n : Nat) : (r.all n).length ≤ n := by
  have := List.length_filter_le (fun p => r.s.testBit p) (List.range n)
  simpa [Ros.all] using this

set_option maxHeartbeats 1000000 in
set_option maxRecDepth 100000 in
theorem RAll_T (r : Ros) (hs : r.s < 2 ^ 32) : callT Try.prog 57 [.agg r.cells] ⟨[], []⟩ (fun x h => x = .isl ((r.all 32).map i64c) (r.all 32).length ∧ h = []) := by
  refine callT.mono (K := fun x h => ∃ u, x = .sl 1001 u 0 (r.all 32).length ∧ h = [(1001, u, ⟨1, (r.all 32).map i64c⟩)]) ?_ fun x h hh => ?_
  · refine callT_of_body [0, 1, 2, 3, 4, 5, 6, 10] [1001] Try.func57 rfl (by decide) (by kernel_rfl) rfl ?_
    simp [Ros.cells, u32v, i64c]
    intro v1
    refine ⟨Nat × Nat, fun x => x.1 ≤ 32, fun x => ⟨[(1, .at 1 v1 0), (3, .sl 1001 x.2 0 (r.all x.1).length), (5, .v (.int .i64 x.1))], [(1, v1, ⟨0, [u32v r.s, .v (.int .i64 r.e)]⟩), (1001, x.2, ⟨1, (r.all x.1).map i64c⟩)]⟩, fun x => 32 - x.1, ?_, ?_⟩
    · refine SLx.nil 3 1001 1 (by decide) (by simp) fun u => SLx.fin _ ⟨(0, u), by simp, rfl⟩ (by simp [Ros.all]) (by simp [Ros.all, u32v])
    rintro ⟨k, u⟩ hk
    simp only at hk ⊢
    have hal := r.all_len k
    by_cases h1 : k < 32
    · have h1' : (k : Int) < 32 := by omega
      simp [h1', u32v]
      refine callT_eq [] (RHas_T r k hs) ?_
      have hh : r.has k = r.s.testBit k := by simp [Ros.has, h1']
      have hsu := r.all_succ k
      have e1 : IntKind.i64.wrap ((k : Int) + 1) = ((k + 1 : Nat) : Int) := by rw [i64_id (by omega) (by omega)]; rfl
      by_cases hb : r.s.testBit k = true
      · rw [if_pos hb] at hsu
        simp [Ros.cells, u32v, i64c, hh, hb]
        intro v
        refine ⟨by omega, by omega, fun u2 => ?_⟩
        exact SLx.again (k + 1, u2) (by simp only; omega) (by simp only; omega) (by simp [e1, hsu]) (by simp [hsu, u32v, i64c])
      · rw [if_neg hb] at hsu
        simp [Ros.cells, u32v, i64c, hh, hb]
        exact SLx.again (k + 1, u) (by simp only; omega) (by simp only; omega) (by simp [e1, hsu]) (by simp [hsu, u32v, i64c])
    · have : k = 32 := by omega
      subst this
      simp [u32v, i64c]
  · obtain ⟨u, rfl, rfl⟩ := hh
    refine VLx.frz 1001 rfl (VLx.done ?_)
    simp
end Go.Proofs.Ytkggjmoghpmelaa.TL

namespace Go.Proofs.Ytkggjmoghpmelaa.TL
open Go
set_option linter.unusedVariables false
set_option linter.unusedSimpArgs false

def Ros.okAt (r : Ros) (no : Int) (l : List Int) (i : Nat) : Bool := r.has (l.getD i 0) && (!decide (l.getD i 0 = no) && (decide (i = 0) || decide (l.getD (i - 1) 0 < l.getD i 0)))
def Ros.most (r : Ros) (no : Int) (l : List Int) : Bool := ((List.range l.length).all fun i => r.okAt no l i) && decide (r.len < 2 * l.length)
theorem most_no {r : Ros} {no : Int} {l : List Int} {k : Nat} (hk : k < l.length) (h : r.okAt no l k = false) : r.most no l = false := by
  unfold Ros.most
  rw [Bool.and_eq_false_iff]
  left
  rw [List.all_eq_false]
  exact ⟨k, by simpa using hk, by simp [h]⟩

set_option maxHeartbeats 2000000 in
set_option maxRecDepth 100000 in
theorem RMost_T (r : Ros) (no : Int) (l : List Int) (hs : r.s < 2 ^ 32) (hl : l.length ≤ 1000000) : callT Try.prog 77 [.agg r.cells, i64c no, .isl (l.map i64c) l.length] ⟨[], []⟩ (fun x h => x = .v (.bool (r.most no l)) ∧ h = []) := by
  refine callT_of_body [0, 1, 2, 3, 6, 7, 8, 9, 10, 11, 12, 37] [] Try.func77 rfl (by decide) (by kernel_rfl) rfl ?_
  simp [Ros.cells, u32v, i64c]
  intro v3
  refine loopT_of (Nat × Nat) (fun x => x.1 ≤ l.length ∧ ∀ i, i < x.1 → r.okAt no l i = true) (fun x => ⟨[(1, i64c no), (2, .isl (l.map i64c) l.length), (3, .at 3 v3 0), (9, .isl (l.map i64c) l.length), (10, .v (.int .i64 l.length)), (11, .v (.int .i64 x.1))], [(3, v3, ⟨0, [u32v r.s, i64c r.e]⟩)]⟩) (fun x => l.length - x.1) (0, 0) ⟨by simp, fun i hi => by simp at hi⟩ (by simp [i64c]) (by simp [i64c, u32v]) ?_
  rintro ⟨k, z⟩ ⟨hk, hok⟩
  simp only at hk hok ⊢
  by_cases h1 : k < l.length
  · have hat : List.drop k (l.map i64c) = i64c l[k] :: List.drop (k + 1) (l.map i64c) := by
      rw [List.drop_eq_getElem_cons (by simpa using h1)]; simp
    have hg : l.getD k 0 = l[k] := by simp [h1]
    have e1 : IntKind.i64.wrap ((k : Int) + 1) = ((k + 1 : Nat) : Int) := by rw [i64_id (by omega) (by omega)]; rfl
    simp [h1, hat, i64c, u32v]
    refine callT_eq [] (RHas_T r l[k] hs) ?_
    by_cases g1 : r.has l[k] = true
    · by_cases g2 : l[k] = no
      · have hno := most_no (r := r) (no := no) h1 (by simp only [Ros.okAt, hg]; simp [g2])
        simp [Ros.cells, u32v, i64c, g1, g2, hno]
      · by_cases g3 : k = 0
        · subst g3
          have hk0 : r.okAt no l 0 = true := by simp only [Ros.okAt, hg]; simp [g1, g2]
          simp [Ros.cells, u32v, i64c, g1, g2]
          have hk1 : ∀ i, i < 1 → r.okAt no l i = true := fun i hi => by
            rw [show i = 0 by omega]; exact hk0
          exact SLx.again (1, 0) ⟨by simp only; omega, hk1⟩ (by simp only; omega) (by simp [i64c, show IntKind.i64.wrap 1 = 1 by decide]) (by simp [u32v, i64c])
        · have e2 : IntKind.i64.wrap ((k : Int) - 1) = ((k - 1 : Nat) : Int) := by rw [i64_id (by omega) (by omega)]; omega
          have h2 : k - 1 < l.length := by omega
          have hat2 : List.drop (k - 1) (l.map i64c) = i64c l[k - 1] :: List.drop (k - 1 + 1) (l.map i64c) := by
            rw [List.drop_eq_getElem_cons (by simpa using h2)]; simp
          have hg2 : l.getD (k - 1) 0 = l[k - 1] := by simp [h2]
          have g3' : 0 < k := by omega
          by_cases g4 : l[k] ≤ l[k - 1]
          · have hno := most_no (r := r) (no := no) h1 (by
              have : ¬ l[k - 1] < l[k] := by omega
              simp only [Ros.okAt, hg, hg2]
              simp [g3, this])
            simp [Ros.cells, u32v, i64c, g1, g2, g3', e2, h2, hat2, g4, hno]
          · have hkk : r.okAt no l k = true := by
              have : l[k - 1] < l[k] := by omega
              simp only [Ros.okAt, hg, hg2]
              simp [g1, g2, this]
            simp [Ros.cells, u32v, i64c, g1, g2, g3', e2, h2, hat2, g4]
            exact SLx.again (k + 1, 0) ⟨by simp only; omega, fun i hi => by
              simp only at hi
              by_cases hik : i = k
              · subst hik; exact hkk
              · exact hok i (by omega)⟩ (by simp only; omega) (by simp [i64c, e1]) (by simp [u32v, i64c])
    · have hno := most_no (r := r) (no := no) h1 (by simp only [Ros.okAt, hg]; simp [g1])
      simp [Ros.cells, u32v, i64c, g1, hno]
  · have : k = l.length := by omega
    subst this
    have hall : ((List.range l.length).all fun i => r.okAt no l i) = true := by
      rw [List.all_eq_true]
      exact fun i hi => hok i (by simpa using hi)
    have hle := pop32_le r.s
    have e2 : IntKind.i64.wrap (2 * (l.length : Int)) = 2 * (l.length : Int) := i64_id (by omega) (by omega)
    simp [u32v, i64c]
    refine callT_eq [] (RLen_T r hs) ?_
    simp [Ros.cells, u32v, i64c, e2, Ros.most, hall]
    omega
end Go.Proofs.Ytkggjmoghpmelaa.TL

namespace Go.Proofs.Ytkggjmoghpmelaa.TL
open Go
set_option linter.unusedVariables false
set_option linter.unusedSimpArgs false

/-- A change. -/
structure Chg where
  k : Int
  p : Int
  v : List Int
def Chg.cells (c : Chg) : List TV := [i64c c.k, i64c c.p, .isl (c.v.map i64c) c.v.length]
def Ros.chk (r : Ros) (c : Chg) : Int :=
  if c.k < 1 ∨ 3 < c.k then 7
  else if c.p < 0 ∨ 32 ≤ c.p ∨ c.p = 0 ∧ c.k ≠ 1 ∨ c.k ≠ 3 ∧ 0 < c.v.length then 4
  else if c.k = 1 then (if r.has c.p = true then 10 else 0)
  else if r.has c.p = false then 13
  else if c.k = 3 ∧ r.most c.p c.v = false then 15 else 0

set_option maxHeartbeats 2000000 in
set_option maxRecDepth 100000 in
theorem RChk_T (r : Ros) (c : Chg) (hs : r.s < 2 ^ 32) (hl : c.v.length ≤ 1000000) : callT Try.prog 55 [.agg r.cells, .agg c.cells] ⟨[], []⟩ (fun x h => x = i64c (r.chk c) ∧ h = []) := by
  obtain ⟨k, p, v⟩ := c
  simp only at hl
  refine callT_of_body [0, 1, 2, 3, 4, 5, 14, 44, 54, 65] [] Try.func55 rfl (by decide) (by kernel_rfl) rfl ?_
  by_cases k1 : k < 1
  · simp [Ros.cells, Chg.cells, u32v, i64c, k1, Ros.chk]
  by_cases k2 : 3 < k
  · simp [Ros.cells, Chg.cells, u32v, i64c, k1, k2, Ros.chk]
  by_cases p1 : p < 0
  · simp [Ros.cells, Chg.cells, u32v, i64c, k1, k2, p1, Ros.chk]
  by_cases p2 : 32 ≤ p
  · simp [Ros.cells, Chg.cells, u32v, i64c, k1, k2, p1, p2, Ros.chk]
  have hk : k = 1 ∨ k = 2 ∨ k = 3 := by omega
  rcases hk with rfl | rfl | rfl
  · by_cases p4 : v = []
    · simp [Ros.cells, Chg.cells, u32v, i64c, p1, p2, p4]
      intro v2 v3
      refine callT_eq [] (RHas_T r p hs) ?_
      by_cases h1 : r.has p = true
      · simp [Ros.cells, u32v, i64c, p1, p2, p4, h1, Ros.chk]
      · simp [Ros.cells, u32v, i64c, p1, p2, p4, h1, Ros.chk]
    · have p4' : 0 < v.length := List.length_pos_iff.2 p4
      simp [Ros.cells, Chg.cells, u32v, i64c, p1, p2, p4, p4', Ros.chk]
  · by_cases p3 : p = 0
    · simp [Ros.cells, Chg.cells, u32v, i64c, p3, Ros.chk]
    by_cases p4 : v = []
    · simp [Ros.cells, Chg.cells, u32v, i64c, p1, p2, p3, p4]
      intro v2 v3
      refine callT_eq [] (RHas_T r p hs) ?_
      by_cases h1 : r.has p = true
      · simp [Ros.cells, u32v, i64c, p1, p2, p3, p4, h1, Ros.chk]
      · simp [Ros.cells, u32v, i64c, p1, p2, p3, p4, h1, Ros.chk]
    · have p4' : 0 < v.length := List.length_pos_iff.2 p4
      simp [Ros.cells, Chg.cells, u32v, i64c, p1, p2, p3, p4, p4', Ros.chk]
  · by_cases p3 : p = 0
    · simp [Ros.cells, Chg.cells, u32v, i64c, p3, Ros.chk]
    simp [Ros.cells, Chg.cells, u32v, i64c, p1, p2, p3]
    intro v2 v3
    refine callT_eq [] (RHas_T r p hs) ?_
    by_cases h1 : r.has p = true
    · simp [Ros.cells, u32v, i64c, p1, p2, p3, h1]
      refine callT_eq [] (RMost_T r p v hs hl) ?_
      by_cases h2 : r.most p v = true
      · simp [Ros.cells, u32v, i64c, p1, p2, p3, h1, h2, Ros.chk]
      · simp [Ros.cells, u32v, i64c, p1, p2, p3, h1, h2, Ros.chk]
    · simp [Ros.cells, u32v, i64c, p1, p2, p3, h1, Ros.chk]
end Go.Proofs.Ytkggjmoghpmelaa.TL

namespace Go.Proofs.Ytkggjmoghpmelaa.TL
open Go
set_option linter.unusedVariables false
set_option linter.unusedSimpArgs false

def rowG (l : List Chg) : List TV := (l.map Chg.cells).flatten
@[simp] theorem rowG_nil : rowG [] = [] := rfl
@[simp] theorem rowG_cons (o : Chg) (l : List Chg) : rowG (o :: l) = o.cells ++ rowG l := rfl
@[simp] theorem rowG_length : ∀ l : List Chg, (rowG l).length = l.length * 3
  | [] => rfl
  | o :: l => by rw [rowG_cons, List.length_append, rowG_length l, List.length_cons, show o.cells.length = 3 from rfl]; omega
@[simp] theorem rowG_CloL : ∀ l : List Chg, CloL (rowG l)
  | [] => trivial
  | o :: l => ⟨trivial, trivial, ⟨CloL_i64c o.v, rowG_CloL l⟩⟩
theorem rowG_drop : ∀ (n : Nat) (l : List Chg), (rowG l).drop (n * 3) = rowG (l.drop n)
  | 0, l => by simp
  | n + 1, [] => by simp [rowG]
  | n + 1, c :: l => by
    rw [show (n + 1) * 3 = n * 3 + 3 by omega]
    have := rowG_drop n l
    simpa [rowG, Chg.cells] using this
theorem rowG_at {l : List Chg} {k : Nat} (h : k < l.length) : List.drop (k * 3) (rowG l) = i64c l[k].k :: i64c l[k].p :: .isl (l[k].v.map i64c) l[k].v.length :: rowG (l.drop (k + 1)) := by
  rw [rowG_drop, List.drop_eq_getElem_cons h]
  rfl
def Ros.app (r : Ros) (c : Chg) : Ros := ⟨r.s ^^^ 2 ^ c.p.toNat, r.e + 1⟩
def Ros.goW (was : Ros) : Ros → List Chg → Ros × Int
  | r, [] => (r, 0)
  | r, c :: l => if r.chk c ≠ 0 then (was, r.chk c) else Ros.goW was (r.app c) l
theorem chk_rng {r : Ros} {c : Chg} (h : r.chk c = 0) : 0 ≤ c.p ∧ c.p < 32 := by
  unfold Ros.chk at h
  split at h
  · cases h
  split at h
  · cases h
  omega
theorem app_lt {r : Ros} {c : Chg} (hs : r.s < 2 ^ 32) (h : r.chk c = 0) : (r.app c).s < 2 ^ 32 := Nat.xor_lt_two_pow hs (pow_lt32 (by have := chk_rng h; omega))

set_option maxHeartbeats 2000000 in
set_option maxRecDepth 100000 in
theorem RWith_T (r : Ros) (l : List Chg) (hs : r.s < 2 ^ 32) (hl : l.length ≤ 1000000) (hv : ∀ c ∈ l, c.v.length ≤ 1000000) (he : 0 ≤ r.e) (he2 : r.e ≤ 9223372036853775807) : callT Try.prog 56 [.agg r.cells, .isl (rowG l) l.length] ⟨[], []⟩ (fun x h => x = .tup [.agg (r.goW r l).1.cells, i64c (r.goW r l).2] ∧ h = []) := by
  refine callT_of_body [0, 1, 2, 4, 5, 6, 8, 9, 11, 12, 13, 14, 21] [] Try.func56 rfl (by decide) (by kernel_rfl) rfl ?_
  simp [Ros.cells, u32v, i64c]
  intro v2 v4 v6
  refine loopT_of (Nat × Ros × Nat) (fun x => x.1 ≤ l.length ∧ r.goW x.2.1 (l.drop x.1) = r.goW r l ∧ x.2.1.s < 2 ^ 32 ∧ x.2.1.e = r.e + x.1) (fun x => ⟨[(2, .at 2 v2 0), (4, .at 4 v4 0), (6, .at 6 v6 0), (11, .isl (rowG l) l.length), (12, .v (.int .i64 l.length)), (13, .v (.int .i64 x.1))], [(2, v2, ⟨0, [u32v x.2.1.s, i64c x.2.1.e]⟩), (4, v4, ⟨0, [.v (.int .u32 0), .v (.int .i64 0)]⟩), (6, v6, ⟨0, [u32v r.s, i64c r.e]⟩)]⟩) (fun x => l.length - x.1) (0, r, 0) ⟨by simp, by simp, hs, by simp⟩ (by simp) (by simp [u32v, i64c]) ?_
  rintro ⟨k, w, z⟩ ⟨hk, hw, hws, hwe⟩
  simp only at hk hw hws hwe ⊢
  by_cases h1 : k < l.length
  · have hat := rowG_at h1
    have hvk := hv l[k] (List.getElem_mem h1)
    rw [List.drop_eq_getElem_cons h1] at hw
    have e1 : IntKind.i64.wrap ((k : Int) + 1) = ((k + 1 : Nat) : Int) := by rw [i64_id (by omega) (by omega)]; rfl
    simp [h1, hat, i64c, u32v]
    intro v8
    refine callT_eq [] (RChk_T w l[k] hws hvk) ?_
    by_cases hc : w.chk l[k] = 0
    · have hr := chk_rng hc
      have hone := u32_one l[k].p.toNat (by omega)
      have hx := u32_xor hws (pow_lt32 (p := l[k].p.toNat) (by omega))
      rw [show ((2 ^ l[k].p.toNat : Nat) : Int) = (2 : Int) ^ l[k].p.toNat by simp] at hx hone
      simp only [Int.one_mul] at hone
      have e2 : IntKind.i64.wrap (w.e + 1) = w.e + 1 := i64_id (by omega) (by omega)
      simp [Ros.cells, Chg.cells, u32v, i64c, hc]
      refine draw_g [0, 1, 2, 3, 4] 5 [] (by kernel_rfl) (by kernel_rfl) (by kernel_rfl) ?_
      simp [hr, hone, hx, e2]
      have hgo : r.goW (w.app l[k]) (l.drop (k + 1)) = r.goW r l := by rw [← hw, Ros.goW, if_neg (by simp [hc])]
      exact SLx.again (k + 1, w.app l[k], 0) ⟨by simp only; omega, hgo, app_lt hws hc, by simp only [Ros.app]; omega⟩ (by simp only; omega) (by simp [e1]) (by simp [Ros.app, u32v, i64c])
    · have hno : r.goW r l = (r, w.chk l[k]) := by rw [← hw, Ros.goW, if_pos hc]
      simp [Ros.cells, Chg.cells, u32v, i64c, hc, hno]
  · have : k = l.length := by omega
    subst this
    have hno : r.goW r l = (w, 0) := by rw [← hw]; simp [Ros.goW]
    simp [Ros.cells, u32v, i64c, hno]
end Go.Proofs.Ytkggjmoghpmelaa.TL

