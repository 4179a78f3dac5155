/- Sums of bytes; pieces of a snapshot: may they be, their bytes, read of bytes. -/
import Derived.Test.YtijgbinkdjekoaaUIn
import Derived.Test.YtijgbinkdjekoaaUOut
import Derived.Test.YtijgbinkdjekoaaUR2
import Derived.Test.YtijgbinkdjekoaaTy
namespace Go.Proofs.Ytijgbinkdjekoaa.TL
open Go
set_option linter.unusedVariables false
set_option linter.unusedSimpArgs false

/-- One byte more in a sum. -/
def fnv1 (f : Int) (c : UInt8) : Int := IntKind.u64.wrap (bits .xor .u64 f (c.toNat : Int) * 1099511628211)
def fnvL (f : Int) (s : List UInt8) : Int := s.foldl fnv1 f
def sumOf (s : List UInt8) : Nat := (fnvL 14695981039346656037 s).toNat
theorem fnv1_rng (f : Int) (c : UInt8) : 0 ≤ fnv1 f c ∧ fnv1 f c < 18446744073709551616 := by
  unfold fnv1
  rw [IntKind.wrap_u64]
  omega
theorem fnvL_rng : ∀ (s : List UInt8) (f : Int), 0 ≤ f ∧ f < 18446744073709551616 → 0 ≤ fnvL f s ∧ fnvL f s < 18446744073709551616
  | [], f, h => h
  | c :: s, f, h => fnvL_rng s (fnv1 f c) (fnv1_rng f c)
theorem sumOf_eq (s : List UInt8) : fnvL 14695981039346656037 s = (sumOf s : Int) := by
  have := fnvL_rng s 14695981039346656037 (by decide)
  unfold sumOf
  omega
theorem sumOf_lt (s : List UInt8) : sumOf s < 2 ^ 64 := by
  have := fnvL_rng s 14695981039346656037 (by decide)
  unfold sumOf
  omega
theorem fnvL_snoc (f : Int) {s : List UInt8} {k : Nat} (h : k < s.length) : fnvL f (s.take (k + 1)) = fnv1 (fnvL f (s.take k)) s[k] := by
  unfold fnvL
  rw [List.take_succ_eq_append_getElem h, List.foldl_append]
  rfl
def fnvLL (f : Int) (l : List (List UInt8)) : Int := l.foldl fnvL f
theorem fnvLL_snoc (f : Int) {l : List (List UInt8)} {k : Nat} (h : k < l.length) : fnvLL f (l.take (k + 1)) = fnvL (fnvLL f (l.take k)) l[k] := by
  unfold fnvLL
  rw [List.take_succ_eq_append_getElem h, List.foldl_append]
  rfl
def strs (l : List (List UInt8)) : List TV := l.map fun s => .v (.string (bs s))
@[simp] theorem strs_length (l : List (List UInt8)) : (strs l).length = l.length := by simp [strs]
@[simp] theorem strs_nil : strs [] = [] := rfl
theorem strs_at {l : List (List UInt8)} {k : Nat} (h : k < l.length) : List.drop k (strs l) = .v (.string (bs l[k])) :: List.drop (k + 1) (strs l) := by
  rw [List.drop_eq_getElem_cons (by simpa using h)]; simp [strs]

set_option maxHeartbeats 2000000 in
set_option maxRecDepth 100000 in
theorem FnvAdd_T (f : Int) (l : List (List UInt8)) (hl : l.length ≤ 1000000) (hs : ∀ s ∈ l, s.length ≤ 4611686018427387904) : callT Try.prog 54 [.v (.int .u64 f), .isl (strs l) l.length] ⟨[], []⟩ (fun x h => x = .v (.int .u64 (fnvLL f l)) ∧ h = []) := by
  refine callT_of_body [0, 1, 4, 6, 7, 8, 9, 10, 11, 15, 16, 17] [] Try.func54 rfl (by decide) (by kernel_rfl) rfl ?_
  simp
  refine loopT_of (Nat × Nat) (fun x => x.1 ≤ l.length) (fun x => ⟨[(0, .v (.int .u64 (fnvLL f (l.take x.1)))), (8, .isl (strs l) l.length), (9, .v (.int .i64 l.length)), (10, .v (.int .i64 x.1))], []⟩) (fun x => l.length - x.1) (0, 0) (by simp) (by simp [fnvLL]) (by simp) ?_
  rintro ⟨k, z⟩ hk
  simp only at hk ⊢
  by_cases g : k < l.length
  · have hat := strs_at g
    have hsn := fnvLL_snoc f g
    have hsl := hs l[k] (List.getElem_mem g)
    have e1 : IntKind.i64.wrap ((k : Int) + 1) = ((k + 1 : Nat) : Int) := by rw [i64_id (by omega) (by omega)]; rfl
    generalize l[k] = s at hat hsn hsl
    generalize fnvLL f (l.take k) = F at hsn ⊢
    simp [g, hat]
    refine loopT_of (Nat × Nat) (fun x => x.1 ≤ s.length) (fun x => ⟨[(0, .v (.int .u64 (fnvL F (s.take x.1)))), (6, .v (.string (bs s))), (8, .isl (strs l) l.length), (9, .v (.int .i64 l.length)), (10, .v (.int .i64 k)), (15, .v (.int .i64 s.length)), (16, .v (.int .i64 x.1))], []⟩) (fun x => s.length - x.1) (0, 0) (by simp) (by simp [fnvL]) (by simp) ?_
    rintro ⟨j, z⟩ hj
    simp only at hj ⊢
    by_cases g2 : j < s.length
    · have hsn2 := fnvL_snoc F g2
      have e2 : IntKind.i64.wrap ((j : Int) + 1) = ((j + 1 : Nat) : Int) := by rw [i64_id (by omega) (by omega)]; rfl
      have e3 : s[j]?.getD 0 = s[j] := by simp [g2]
      have e4 : IntKind.u64.wrap (s[j].toNat : Int) = s[j].toNat := u64_id (by omega) (by have := s[j].toNat_lt; omega)
      simp [g2, e3, e4]
      exact SLx.again (j + 1, 0) (by simp only; omega) (by simp only; omega) (by simp [e2, hsn2, fnv1]) (by simp)
    · have : j = s.length := by omega
      subst this
      simp
      exact SLx.again (k + 1, 0) (by simp only; omega) (by simp only; omega) (by simp [e1, hsn]) (by simp)
  · have : k = l.length := by omega
    subst this
    simp
theorem SumOf_T (s : List UInt8) (hs : s.length ≤ 4611686018427387904) : callT Try.prog 35 [.isl [.v (.string (bs s))] 1] ⟨[], []⟩ (fun x h => x = u64c (sumOf s) ∧ h = []) := by
  refine callT_of_body [0, 2] [] Try.func35 rfl (by decide) (by kernel_rfl) rfl ?_
  have h := FnvAdd_T 14695981039346656037 [s] (by simp) (by simpa using hs)
  rw [show fnvLL 14695981039346656037 [s] = (sumOf s : Int) from sumOf_eq s] at h
  simp
  refine callT_eq [] h ?_
  simp [strs, u64c]

/-- A piece of a snapshot. -/
structure Pcs where
  t : Int
  b : Int
  h : Nat
  n : Int
  s : List UInt8
def Pcs.cells (p : Pcs) : List TV := [i64c p.t, i64c p.b, u64c p.h, i64c p.n, .v (.string (bs p.s))]
def pcN (b : Int) : Int := (max b 0 + 99) / 100
theorem PcCount_T (b : Int) (hb : b ≤ 4611686018427387904) : callT Try.prog 34 [i64c b] ⟨[], []⟩ (fun x h => x = i64c (pcN b) ∧ h = []) := by
  refine callT_of_body [0, 2] [] Try.func34 rfl (by decide) (by kernel_rfl) rfl ?_
  have e1 : IntKind.i64.wrap (max b 0 + 100) = max b 0 + 100 := i64_id (by omega) (by omega)
  have e2 : IntKind.i64.wrap (max b 0 + 100 - 1) = max b 0 + 99 := by rw [show max b 0 + 100 - 1 = max b 0 + 99 by omega]; exact i64_id (by omega) (by omega)
  have e3 : (max b 0 + 99).tdiv 100 = (max b 0 + 99) / 100 := Int.tdiv_eq_ediv_of_nonneg (by omega)
  have e4 : IntKind.i64.wrap ((max b 0 + 99) / 100) = (max b 0 + 99) / 100 := i64_id (by omega) (by omega)
  simp [i64c, e1, e2, e3, e4, pcN]
def Pcs.chk (p : Pcs) : Int :=
  if p.t < 0 ∨ 1099511627776 < p.t ∨ p.n < 0 then 4
  else if p.b < 1 ∨ 65536 < p.b then 3
  else if pcN p.b ≤ p.n ∨ (p.s.length : Int) ≠ min 100 (p.b - p.n * 100) then 2
  else 0
theorem PcSize_T (p : Pcs) (hn : 0 ≤ p.n ∧ p.n ≤ 65536) (hb : 0 ≤ p.b ∧ p.b ≤ 65536) : callT Try.prog 39 [.agg p.cells] ⟨[], []⟩ (fun x h => x = i64c (min 100 (p.b - p.n * 100)) ∧ h = []) := by
  refine callT_of_body [0, 1, 2] [] Try.func39 rfl (by decide) (by kernel_rfl) rfl ?_
  have e1 : IntKind.i64.wrap (p.n * 100) = p.n * 100 := i64_id (by omega) (by omega)
  have e2 : IntKind.i64.wrap (p.b - p.n * 100) = p.b - p.n * 100 := i64_id (by omega) (by omega)
  simp [Pcs.cells, i64c, e1, e2]

set_option maxHeartbeats 4000000 in
set_option maxRecDepth 100000 in
theorem PcChk_T (p : Pcs) (hs : p.s.length ≤ 4611686018427387904) : callT Try.prog 23 [.agg p.cells] ⟨[], []⟩ (fun x h => x = i64c p.chk ∧ h = []) := by
  refine callT_of_body [0, 1, 2, 3, 17, 26] [] Try.func23 rfl (by decide) (by kernel_rfl) rfl ?_
  have hcnt := PcCount_T p.b
  have hsz := PcSize_T p
  obtain ⟨t, b, h, n, s⟩ := p
  simp only at hs hcnt
  unfold Pcs.chk
  simp only [Pcs.cells, i64c] at hsz hcnt ⊢
  by_cases g1 : t < 0
  · simp [g1, i64c]
  by_cases g2 : 1099511627776 < t
  · simp [g1, g2, i64c]
  by_cases g3 : n < 0
  · simp [g1, g2, g3, i64c]
  by_cases g4 : b < 1
  · simp [g1, g2, g3, g4, i64c]
  by_cases g5 : 65536 < b
  · simp [g1, g2, g3, g4, g5, i64c]
  have hpc : pcN b ≤ 656 := by unfold pcN; omega
  have hc2 := hcnt (by omega)
  simp [g1, g2, g3, g4, g5, i64c]
  intro v1
  by_cases g6 : pcN b ≤ n
  · refine draw_g [0, 1, 2, 3, 4, 5, 6, 7, 8, 9, 10, 11] 12 [(4, [2, 3]), (11, [0, 1, 2, 3, 4, 5, 6, 10])] (by kernel_rfl) (by kernel_rfl) (by kernel_rfl) ?_
    simp
    refine callT_eq [] hc2 ?_
    simp [g6, i64c]
  · refine draw_g [0, 1, 2, 3, 4, 5, 6, 7, 8, 9, 10, 11] 12 [(4, [2, 3]), (11, [0, 1, 2, 3, 4, 5, 6, 10])] (by kernel_rfl) (by kernel_rfl) (by kernel_rfl) ?_
    simp
    refine callT_eq [] hc2 ?_
    simp [g6, i64c]
    refine callT_eq [] (hsz (by omega) (by omega)) ?_
    by_cases g7 : (s.length : Int) = min 100 (b - n * 100)
    · simp [g7, i64c, u64c]
    · simp [g7, i64c, u64c]

def Pcs.bytes (p : Pcs) : List UInt8 := nb p.t.toNat ++ (nb p.b.toNat ++ (nb p.h ++ (nb p.n.toNat ++ (nb p.s.length ++ p.s))))
structure Pcs.ok (p : Pcs) : Prop where
  t : p.t < 2 ^ 63
  b : p.b < 2 ^ 63
  h : p.h < 2 ^ 64
  n : p.n < 2 ^ 63
  s : p.s.length ≤ 1000000

set_option maxHeartbeats 2000000 in
set_option maxRecDepth 100000 in
theorem OutStr_T (v u : Nat) (w : List UInt8) (s : List UInt8) (hw : w.length ≤ 1000000000) (hs : s.length ≤ 1000000) :
    callT Try.prog 42 [.at 1000 v 0, .isl [.v (.string (bs s))] 1] ⟨[], outH v u w⟩ (fun r h => ∃ u', r = .at 1000 v 0 ∧ h = outH v u' (w ++ (nb s.length ++ s))) := by
  refine callT_of_body [0, 1, 4, 6, 7, 8, 9, 10] [1000, 1001] Try.func42 rfl (by decide) (by kernel_rfl) rfl ?_
  simp
  refine loopT_of (Nat × Nat × List UInt8) (fun x => (x.1 = 0 ∧ x.2.2 = w) ∨ (x.1 = 1 ∧ x.2.2 = w ++ (nb s.length ++ s))) (fun x => ⟨[(0, .at 1000 v 0), (7, .isl [.v (.string (bs s))] 1), (8, .v (.int .i64 1)), (9, .v (.int .i64 x.1))], outH v x.2.1 x.2.2⟩) (fun x => 1 - x.1) (0, u, w) (.inl ⟨rfl, rfl⟩) (by simp) (by simp) ?_
  rintro ⟨k, u1, W⟩ hJ
  simp only at hJ ⊢
  have l1 := nb_len10 (n := s.length) (by omega)
  rcases hJ with ⟨rfl, rfl⟩ | ⟨rfl, rfl⟩
  · have hc := OutCount_T v u1 W [(s.length : Int)] (by simp; omega) (by simp; omega)
    simp
    intro v16
    refine callT.pre (fn_of hc) (CLx.frz 16 rfl (CLx.done ?_))
    simp
    refine callT_ex [(1000, 1000), (1001, 1001)] hc ?_
    have htk : List.take (W.length + (nb s.length).length) (W.map bv ++ (nb s.length).map bv) = W.map bv ++ (nb s.length).map bv := List.take_of_length_le (by simp)
    simp [i64c, htk]
    refine ⟨by omega, fun u3 => ?_⟩
    exact SLx.again (1, u3, W ++ (nb s.length ++ s)) (.inr ⟨rfl, rfl⟩) (by simp) (by simp; exact i64_id (by omega) (by omega)) (by simp [outB]; omega)
  · simp

set_option maxHeartbeats 2000000 in
set_option maxRecDepth 100000 in
theorem PcPut_T (v u : Nat) (w : List UInt8) (p : Pcs) (hp : p.ok) (hw : w.length ≤ 100000000) : callT Try.prog 25 [.agg p.cells, .at 1000 v 0] ⟨[], outH v u w⟩ (fun x h => ∃ u', x = .tup [] ∧ h = outH v u' (w ++ p.bytes)) := by
  obtain ⟨h1, h2, h3, h4, h5⟩ := hp
  refine callT_of_body [0, 1, 2] [1000, 1001] Try.func25 rfl (by decide) (by kernel_rfl) rfl ?_
  have l1 := nb_len10 (n := p.t.toNat) (by omega)
  have l2 := nb_len10 (n := p.b.toNat) (by omega)
  have l3 := nb_len10 (n := p.h) (by omega)
  have l4 := nb_len10 (n := p.n.toNat) (by omega)
  simp [Pcs.cells, i64c, u64c]
  intro v2
  refine draw_g [0, 1, 2, 3, 4, 5, 7, 8, 9, 11, 12, 13, 15, 16, 17, 6, 10, 14] 18 [(6, [0, 1, 2, 3, 4, 5]), (10, [0, 1, 2, 3, 4, 5, 6, 7, 8, 9]), (14, [0, 1, 2, 3, 4, 5, 6, 7, 8, 9, 10, 11, 12, 13])] (by kernel_rfl) (by kernel_rfl) (by kernel_rfl) ?_
  simp
  refine callT_ex [(1000, 1000), (1001, 1001)] (OutCount_T v u w [p.t, p.b] (by simp; omega) (by simp; omega)) ?_
  simp [i64c, u64c]
  intro u1
  refine callT_ex [(1000, 1000), (1001, 1001)] (OutNum_T v u1 (w ++ nbs ([p.t, p.b].map Int.toNat)) [p.h] (by simp; omega) (by simp [nbs]; omega)) ?_
  simp [i64c, u64c]
  intro u2
  refine callT_ex [(1000, 1000), (1001, 1001)] (OutCount_T v u2 (w ++ nbs ([p.t, p.b].map Int.toNat) ++ nbs [p.h]) [p.n] (by simp; omega) (by simp [nbs]; omega)) ?_
  simp [i64c, u64c]
  intro u3
  refine callT_ex [(1000, 1000), (1001, 1001)] (OutStr_T v u3 (w ++ nbs ([p.t, p.b].map Int.toNat) ++ nbs [p.h] ++ nbs ([p.n].map Int.toNat)) p.s (by simp [nbs]; omega) h5) ?_
  simp [i64c, u64c, Pcs.bytes, nbs]
  omega

/-- What is read of bytes as a piece. -/
def In.pcs (i : In) : In × Pcs :=
  let t := i.count 1099511627776
  let b := t.1.count 65536
  let h := b.1.num
  let n := h.1.count 65536
  let s := n.1.str 100
  let p : Pcs := ⟨t.2, b.2, h.2, n.2, s.2⟩
  let j := if s.1.e = 0 then s.1.fail p.chk else s.1
  if j.e ≠ 0 then (j, ⟨0, 0, 0, 0, []⟩) else (j, p)
theorem InStr_T (v : Nat) (i : In) (m : Int) (hm : m ≤ 9223372036854775807) : callT Try.prog 45 [.at 1000 v 0, .v (.int .i64 m)] ⟨[], [(1000, v, inB i)]⟩ (fun r h => r = .v (.string (bs (i.str m).2)) ∧ h = [(1000, v, inB (i.str m).1)]) := by
  refine callT_of_body [0, 1, 4] [1000] Try.func45 rfl (by decide) (by kernel_rfl) rfl ?_
  simp
  refine callT_eq [(1000, 1000)] (Count_T v i m hm) ?_
  simp
  refine callT_eq [(1000, 1000)] (Raw_T v (i.count m).1 (i.count m).2) ?_
  simp [In.str]
theorem raw_len (i : In) (n : Int) : ((i.raw n).2.length : Int) ≤ max n 0 := by
  unfold In.raw
  split
  · simp; omega
  · split
    · simp; omega
    · rw [List.length_take]; omega
theorem count_le (i : In) {m : Int} (hm : 0 ≤ m) : 0 ≤ (i.count m).2 ∧ (i.count m).2 ≤ m := by
  unfold In.count
  split
  · exact ⟨Int.le_refl 0, hm⟩
  · simp only; omega
theorem str_len (i : In) {m : Int} (hm : 0 ≤ m) : ((i.str m).2.length : Int) ≤ m := by
  have h1 := raw_len (i.count m).1 (i.count m).2
  have h2 := count_le i hm
  unfold In.str
  omega

set_option maxHeartbeats 4000000 in
set_option maxRecDepth 100000 in
theorem PcRead_T (v : Nat) (i : In) : callT Try.prog 28 [.at 1000 v 0] ⟨[], [(1000, v, inB i)]⟩ (fun x h => x = .agg i.pcs.2.cells ∧ h = [(1000, v, inB i.pcs.1)]) := by
  refine callT_of_body [0, 2, 3, 19, 26] [1000] Try.func28 rfl (by decide) (by kernel_rfl) rfl ?_
  simp [Pcs.cells, i64c, u64c]
  intro v2
  refine callT_eq [(1000, 1000)] (Count_T v i 1099511627776 (by decide)) ?_
  unfold In.pcs
  simp only
  generalize i.count 1099511627776 = T
  obtain ⟨i1, t⟩ := T
  simp
  refine callT_eq [(1000, 1000)] (Count_T v i1 65536 (by decide)) ?_
  generalize i1.count 65536 = T
  obtain ⟨i2, b⟩ := T
  simp
  refine callT_eq [(1000, 1000)] (Num_T v i2) ?_
  generalize i2.num = T
  obtain ⟨i3, hh⟩ := T
  simp
  intro v3
  refine callT_eq [(1000, 1000)] (Count_T v i3 65536 (by decide)) ?_
  generalize i3.count 65536 = T
  obtain ⟨i4, n⟩ := T
  simp
  refine callT_eq [(1000, 1000)] (InStr_T v i4 100 (by decide)) ?_
  have hsl := str_len i4 (m := 100) (by decide)
  generalize i4.str 100 = T at hsl ⊢
  obtain ⟨i5, s⟩ := T
  simp only at hsl
  simp
  refine callT_eq [(1000, 1000)] (Err_T v i5) ?_
  by_cases h5 : i5.e = 0
  · simp [h5]
    refine callT_eq [] (PcChk_T ⟨t, b, hh, n, s⟩ (by simp only; omega)) ?_
    simp [Pcs.cells, i64c, u64c]
    refine callT_eq [(1000, 1000)] (Fail_T v i5 (Pcs.mk t b hh n s).chk) ?_
    simp
    refine ⟨h5.symm, ?_⟩
    refine callT_eq [(1000, 1000)] (Err_T v (i5.fail (Pcs.mk t b hh n s).chk)) ?_
    by_cases h6 : (i5.fail (Pcs.mk t b hh n s).chk).e = 0
    · simp [h6]
    · simp [h6, bs_nil]
  · simp [h5]
    refine callT_eq [(1000, 1000)] (Err_T v i5) ?_
    simp [h5, bs_nil]
end Go.Proofs.Ytijgbinkdjekoaa.TL
