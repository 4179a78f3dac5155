/- Sums of bytes; pieces of a snapshot: may they be, their bytes, read of bytes. -/
import Derived.Test.YtgkhedmjkahclaaGreatDoorUIn
import Derived.Test.YtgkhedmjkahclaaGreatDoorUOut
import Derived.Test.YtgkhedmjkahclaaGreatDoorUR2
import Derived.Test.YtgkhedmjkahclaaGreatDoorTy
namespace Go.Proofs.YtgkhedmjkahclaaGreatDoor.TL
open Go
set_option linter.unusedVariables false
set_option linter.unusedSimpArgs false

/-- One byte more in a sum. -/
def fnv1 (f : Int) (c : UInt8) : Int := IntKind.u64.wrap (bits .xor .u64 f (c.toNat : Int) * 1099511628211)
def fnvL (f : Int) (s : List UInt8) : Int := s.foldl fnv1 f
def sumOf (s : List UInt8) : Nat := (fnvL 14695981039346656037 s).toNat
theorem fnv1_rng (f : Int) (c : UInt8) : 0 ≤ fnv1 f c ∧ fnv1 f c < 18446744073709551616 := by
  unfold fnv1
  rw [IntKind.wrap_u64]
  omega
theorem fnvL_rng : ∀ (s : List UInt8) (f : Int), 0 ≤ f ∧ f < 18446744073709551616 → 0 ≤ fnvL f s ∧ fnvL f s < 18446744073709551616
  | [], f, h => h
  | c :: s, f, h => fnvL_rng s (fnv1 f c) (fnv1_rng f c)
theorem sumOf_eq (s : List UInt8) : fnvL 14695981039346656037 s = (sumOf s : Int) := by
  have := fnvL_rng s 14695981039346656037 (by decide)
  unfold sumOf
  omega
theorem sumOf_lt (s : List UInt8) : sumOf s < 2 ^ 64 := by
  have := fnvL_rng s 14695981039346656037 (by decide)
  unfold sumOf
  omega
theorem fnvL_snoc (f : Int) {s : List UInt8} {k : Nat} (h : k < s.length) : fnvL f (s.take (k + 1)) = fnv1 (fnvL f (s.take k)) s[k] := by
  unfold fnvL
  rw [List.take_succ_eq_append_getElem h, List.foldl_append]
  rfl
def fnvLL (f : Int) (l : List (List UInt8)) : Int := l.foldl fnvL f
theorem fnvLL_snoc (f : Int) {l : List (List UInt8)} {k : Nat} (h : k < l.length) : fnvLL f (l.take (k + 1)) = fnvL (fnvLL f (l.take k)) l[k] := by
  unfold fnvLL
  rw [List.take_succ_eq_append_getElem h, List.foldl_append]
  rfl
def strs (l : List (List UInt8)) : List TV := l.map fun s => .v (.string (bs s))
@[simp] theorem strs_length (l : List (List UInt8)) : (strs l).length = l.length := by simp [strs]
@[simp] theorem strs_nil : strs [] = [] := rfl
theorem strs_at {l : List (List UInt8)} {k : Nat} (h : k < l.length) : List.drop k (strs l) = .v (.string (bs l[k])) :: List.drop (k + 1) (strs l) := by
  rw [List.drop_eq_getElem_cons (by simpa using h)]; simp [strs]

/-- A piece of a snapshot. -/
structure Pcs where
  t : Int
  b : Int
  h : Nat
  n : Int
  s : List UInt8
def Pcs.cells (p : Pcs) : List TV := [i64c p.t, i64c p.b, u64c p.h, i64c p.n, .v (.string (bs p.s))]
def pcN (b : Int) : Int := (max b 0 + 99) / 100
def Pcs.chk (p : Pcs) : Int :=
  if p.t < 0 ∨ 1099511627776 < p.t ∨ p.n < 0 then 4
  else if p.b < 1 ∨ 65536 < p.b then 3
  else if pcN p.b ≤ p.n ∨ (p.s.length : Int) ≠ min 100 (p.b - p.n * 100) then 2
  else 0
def Pcs.bytes (p : Pcs) : List UInt8 := nb p.t.toNat ++ (nb p.b.toNat ++ (nb p.h ++ (nb p.n.toNat ++ (nb p.s.length ++ p.s))))
structure Pcs.ok (p : Pcs) : Prop where
  t : p.t < 2 ^ 63
  b : p.b < 2 ^ 63
  h : p.h < 2 ^ 64
  n : p.n < 2 ^ 63
  s : p.s.length ≤ 1000000

set_option maxHeartbeats 2000000 in
set_option maxRecDepth 100000 in
theorem OutStr_T (v u : Nat) (w : List UInt8) (s : List UInt8) (hw : w.length ≤ 1000000000) (hs : s.length ≤ 1000000) :
    callT Tryz.prog 27 [.at 1000 v 0, .isl [.v (.string (bs s))] 1] ⟨[], outH v u w⟩ (fun r h => ∃ u', r = .at 1000 v 0 ∧ h = outH v u' (w ++ (nb s.length ++ s))) := by
  refine callT_of_body [0, 1, 4, 6, 7, 8, 9, 10] [1000, 1001] Tryz.func27 rfl (by decide) (by kernel_rfl) rfl ?_
  simp
  refine loopT_of (Nat × Nat × List UInt8) (fun x => (x.1 = 0 ∧ x.2.2 = w) ∨ (x.1 = 1 ∧ x.2.2 = w ++ (nb s.length ++ s))) (fun x => ⟨[(0, .at 1000 v 0), (7, .isl [.v (.string (bs s))] 1), (8, .v (.int .i64 1)), (9, .v (.int .i64 x.1))], outH v x.2.1 x.2.2⟩) (fun x => 1 - x.1) (0, u, w) (.inl ⟨rfl, rfl⟩) (by simp) (by simp) ?_
  rintro ⟨k, u1, W⟩ hJ
  simp only at hJ ⊢
  have l1 := nb_len10 (n := s.length) (by omega)
  rcases hJ with ⟨rfl, rfl⟩ | ⟨rfl, rfl⟩
  · have hc := OutCount_T v u1 W [(s.length : Int)] (by simp; omega) (by simp; omega)
    simp
    intro v16
    refine callT.pre (fn_of hc) (CLx.frz 16 rfl (CLx.done ?_))
    simp
    refine callT_ex [(1000, 1000), (1001, 1001)] hc ?_
    have htk : List.take (W.length + (nb s.length).length) (W.map bv ++ (nb s.length).map bv) = W.map bv ++ (nb s.length).map bv := List.take_of_length_le (by simp)
    simp [i64c, htk]
    refine ⟨by omega, fun u3 => ?_⟩
    exact SLx.again (1, u3, W ++ (nb s.length ++ s)) (.inr ⟨rfl, rfl⟩) (by simp) (by simp; exact i64_id (by omega) (by omega)) (by simp [outB]; omega)
  · simp

/-- What is read of bytes as a piece. -/
def In.pcs (i : In) : In × Pcs :=
  let t := i.count 1099511627776
  let b := t.1.count 65536
  let h := b.1.num
  let n := h.1.count 65536
  let s := n.1.str 100
  let p : Pcs := ⟨t.2, b.2, h.2, n.2, s.2⟩
  let j := if s.1.e = 0 then s.1.fail p.chk else s.1
  if j.e ≠ 0 then (j, ⟨0, 0, 0, 0, []⟩) else (j, p)
theorem raw_len (i : In) (n : Int) : ((i.raw n).2.length : Int) ≤ max n 0 := by
  unfold In.raw
  split
  · simp; omega
  · split
    · simp; omega
    · rw [List.length_take]; omega
theorem count_le (i : In) {m : Int} (hm : 0 ≤ m) : 0 ≤ (i.count m).2 ∧ (i.count m).2 ≤ m := by
  unfold In.count
  split
  · exact ⟨Int.le_refl 0, hm⟩
  · simp only; omega
theorem str_len (i : In) {m : Int} (hm : 0 ≤ m) : ((i.str m).2.length : Int) ≤ m := by
  have h1 := raw_len (i.count m).1 (i.count m).2
  have h2 := count_le i hm
  unfold In.str
  omega

end Go.Proofs.YtgkhedmjkahclaaGreatDoor.TL
