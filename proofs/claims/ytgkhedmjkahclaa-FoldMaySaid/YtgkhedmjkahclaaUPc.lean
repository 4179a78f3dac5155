/- Sums of bytes; pieces of a snapshot: may they be, their bytes, read of bytes. -/
import Derived.Test.YtgkhedmjkahclaaUIn
import Derived.Test.YtgkhedmjkahclaaUOut
import Derived.Test.YtgkhedmjkahclaaUR2
import Derived.Test.YtgkhedmjkahclaaTy
namespace Go.Proofs.Ytgkhedmjkahclaa.TL
open Go
set_option linter.unusedVariables false
set_option linter.unusedSimpArgs false

/-- One byte more in a sum. -/
def fnv1 (f : Int) (c : UInt8) : Int := IntKind.u64.wrap (bits .xor .u64 f (c.toNat : Int) * 1099511628211)
def fnvL (f : Int) (s : List UInt8) : Int := s.foldl fnv1 f
def sumOf (s : List UInt8) : Nat := (fnvL 14695981039346656037 s).toNat
theorem fnv1_rng (f : Int) (c : UInt8) : 0 ≤ fnv1 f c ∧ fnv1 f c < 18446744073709551616 := by
  unfold fnv1
  rw [IntKind.wrap_u64]
  omega
theorem fnvL_rng : ∀ (s : List UInt8) (f : Int), 0 ≤ f ∧ f < 18446744073709551616 → 0 ≤ fnvL f s ∧ fnvL f s < 18446744073709551616
  | [], f, h => h
  | c :: s, f, h => fnvL_rng s (fnv1 f c) (fnv1_rng f c)
theorem sumOf_eq (s : List UInt8) : fnvL 14695981039346656037 s = (sumOf s : Int) := by
  have := fnvL_rng s 14695981039346656037 (by decide)
  unfold sumOf
  omega
theorem sumOf_lt (s : List UInt8) : sumOf s < 2 ^ 64 := by
  have := fnvL_rng s 14695981039346656037 (by decide)
  unfold sumOf
  omega
theorem fnvL_snoc (f : Int) {s : List UInt8} {k : Nat} (h : k < s.length) : fnvL f (s.take (k + 1)) = fnv1 (fnvL f (s.take k)) s[k] := by
  unfold fnvL
  rw [List.take_succ_eq_append_getElem h, List.foldl_append]
  rfl
def fnvLL (f : Int) (l : List (List UInt8)) : Int := l.foldl fnvL f
theorem fnvLL_snoc (f : Int) {l : List (List UInt8)} {k : Nat} (h : k < l.length) : fnvLL f (l.take (k + 1)) = fnvL (fnvLL f (l.take k)) l[k] := by
  unfold fnvLL
  rw [List.take_succ_eq_append_getElem h, List.foldl_append]
  rfl
def strs (l : List (List UInt8)) : List TV := l.map fun s => .v (.string (bs s))
@[simp] theorem strs_length (l : List (List UInt8)) : (strs l).length = l.length := by simp [strs]
@[simp] theorem strs_nil : strs [] = [] := rfl
theorem strs_at {l : List (List UInt8)} {k : Nat} (h : k < l.length) : List.drop k (strs l) = .v (.string (bs l[k])) :: List.drop (k + 1) (strs l) := by
  rw [List.drop_eq_getElem_cons (by simpa using h)]; simp [strs]

set_option maxHeartbeats 2000000 in
set_option maxRecDepth 100000 in
theorem FnvAdd_T (f : Int) (l : List (List UInt8)) (hl : l.length ≤ 1000000) (hs : ∀ s ∈ l, s.length ≤ 4611686018427387904) : callT Try.prog 87 [.v (.int .u64 f), .isl (strs l) l.length] ⟨[], []⟩ (fun x h => x = .v (.int .u64 (fnvLL f l)) ∧ h = []) := by
  refine callT_of_body [0, 1, 4, 6, 7, 8, 9, 10, 11, 15, 16, 17] [] Try.func87 rfl (by decide) (by kernel_rfl) rfl ?_
  simp
  refine loopT_of (Nat × Nat) (fun x => x.1 ≤ l.length) (fun x => ⟨[(0, .v (.int .u64 (fnvLL f (l.take x.1)))), (8, .isl (strs l) l.length), (9, .v (.int .i64 l.length)), (10, .v (.int .i64 x.1))], []⟩) (fun x => l.length - x.1) (0, 0) (by simp) (by simp [fnvLL]) (by simp) ?_
  rintro ⟨k, z⟩ hk
  simp only at hk ⊢
  by_cases g : k < l.length
  · have hat := strs_at g
    have hsn := fnvLL_snoc f g
    have hsl := hs l[k] (List.getElem_mem g)
    have e1 : IntKind.i64.wrap ((k : Int) + 1) = ((k + 1 : Nat) : Int) := by rw [i64_id (by omega) (by omega)]; rfl
    generalize l[k] = s at hat hsn hsl
    generalize fnvLL f (l.take k) = F at hsn ⊢
    simp [g, hat]
    refine loopT_of (Nat × Nat) (fun x => x.1 ≤ s.length) (fun x => ⟨[(0, .v (.int .u64 (fnvL F (s.take x.1)))), (6, .v (.string (bs s))), (8, .isl (strs l) l.length), (9, .v (.int .i64 l.length)), (10, .v (.int .i64 k)), (15, .v (.int .i64 s.length)), (16, .v (.int .i64 x.1))], []⟩) (fun x => s.length - x.1) (0, 0) (by simp) (by simp [fnvL]) (by simp) ?_
    rintro ⟨j, z⟩ hj
    simp only at hj ⊢
    by_cases g2 : j < s.length
    · have hsn2 := fnvL_snoc F g2
      have e2 : IntKind.i64.wrap ((j : Int) + 1) = ((j + 1 : Nat) : Int) := by rw [i64_id (by omega) (by omega)]; rfl
      have e3 : s[j]?.getD 0 = s[j] := by simp [g2]
      have e4 : IntKind.u64.wrap (s[j].toNat : Int) = s[j].toNat := u64_id (by omega) (by have := s[j].toNat_lt; omega)
      simp [g2, e3, e4]
      exact SLx.again (j + 1, 0) (by simp only; omega) (by simp only; omega) (by simp [e2, hsn2, fnv1]) (by simp)
    · have : j = s.length := by omega
      subst this
      simp
      exact SLx.again (k + 1, 0) (by simp only; omega) (by simp only; omega) (by simp [e1, hsn]) (by simp)
  · have : k = l.length := by omega
    subst this
    simp
theorem SumOf_T (s : List UInt8) (hs : s.length ≤ 4611686018427387904) : callT Try.prog 65 [.isl [.v (.string (bs s))] 1] ⟨[], []⟩ (fun x h => x = u64c (sumOf s) ∧ h = []) := by
  refine callT_of_body [0, 2] [] Try.func65 rfl (by decide) (by kernel_rfl) rfl ?_
  have h := FnvAdd_T 14695981039346656037 [s] (by simp) (by simpa using hs)
  rw [show fnvLL 14695981039346656037 [s] = (sumOf s : Int) from sumOf_eq s] at h
  simp
  refine callT_eq [] h ?_
  simp [strs, u64c]

/-- A piece of a snapshot. -/
structure Pcs where
  t : Int
  b : Int
  h : Nat
  n : Int
  s : List UInt8
def Pcs.cells (p : Pcs) : List TV := [i64c p.t, i64c p.b, u64c p.h, i64c p.n, .v (.string (bs p.s))]
def pcN (b : Int) : Int := (max b 0 + 99) / 100
def Pcs.chk (p : Pcs) : Int :=
  if p.t < 0 ∨ 1099511627776 < p.t ∨ p.n < 0 then 4
  else if p.b < 1 ∨ 65536 < p.b then 3
  else if pcN p.b ≤ p.n ∨ (p.s.length : Int) ≠ min 100 (p.b - p.n * 100) then 2
  else 0
def Pcs.bytes (p : Pcs) : List UInt8 := nb p.t.toNat ++ (nb p.b.toNat ++ (nb p.h ++ (nb p.n.toNat ++ (nb p.s.length ++ p.s))))
structure Pcs.ok (p : Pcs) : Prop where
  t : p.t < 2 ^ 63
  b : p.b < 2 ^ 63
  h : p.h < 2 ^ 64
  n : p.n < 2 ^ 63
  s : p.s.length ≤ 1000000

/-- What is read of bytes as a piece. -/
def In.pcs (i : In) : In × Pcs :=
  let t := i.count 1099511627776
  let b := t.1.count 65536
  let h := b.1.num
  let n := h.1.count 65536
  let s := n.1.str 100
  let p : Pcs := ⟨t.2, b.2, h.2, n.2, s.2⟩
  let j := if s.1.e = 0 then s.1.fail p.chk else s.1
  if j.e ≠ 0 then (j, ⟨0, 0, 0, 0, []⟩) else (j, p)
theorem raw_len (i : In) (n : Int) : ((i.raw n).2.length : Int) ≤ max n 0 := by
  unfold In.raw
  split
  · simp; omega
  · split
    · simp; omega
    · rw [List.length_take]; omega
theorem count_le (i : In) {m : Int} (hm : 0 ≤ m) : 0 ≤ (i.count m).2 ∧ (i.count m).2 ≤ m := by
  unfold In.count
  split
  · exact ⟨Int.le_refl 0, hm⟩
  · simp only; omega
theorem str_len (i : In) {m : Int} (hm : 0 ≤ m) : ((i.str m).2.length : Int) ≤ m := by
  have h1 := raw_len (i.count m).1 (i.count m).2
  have h2 := count_le i hm
  unfold In.str
  omega

end Go.Proofs.Ytgkhedmjkahclaa.TL
