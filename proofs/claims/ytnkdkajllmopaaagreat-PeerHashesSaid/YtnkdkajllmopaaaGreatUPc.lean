/- Sums of bytes; pieces of a snapshot: may they be, their bytes, read of bytes. -/
/- The reference's pieces: may they be, their bytes, read of bytes. -/
/- A snapshot's pieces. -/
/- A snapshot put together: chunk.Gather. -/
import Derived.Test.YtnkdkajllmopaaaGreatUIn
import Derived.Test.YtnkdkajllmopaaaGreatUOut
import Derived.Test.YtnkdkajllmopaaaGreatUR2
import Derived.Test.YtnkdkajllmopaaaGreatTy
import Derived.Test.YtnkdkajllmopaaaGreatUWire
namespace Go.Proofs.YtnkdkajllmopaaaGreat.TL
open Go
set_option linter.unusedVariables false
set_option linter.unusedSimpArgs false

/-- One byte more in a sum. -/
def fnv1 (f : Int) (c : UInt8) : Int := IntKind.u64.wrap (bits .xor .u64 f (c.toNat : Int) * 1099511628211)
def fnvL (f : Int) (s : List UInt8) : Int := s.foldl fnv1 f
def sumOf (s : List UInt8) : Nat := (fnvL 14695981039346656037 s).toNat
theorem fnv1_rng (f : Int) (c : UInt8) : 0 ≤ fnv1 f c ∧ fnv1 f c < 18446744073709551616 := by
  unfold fnv1
  rw [IntKind.wrap_u64]
  omega
theorem fnvL_rng : ∀ (s : List UInt8) (f : Int), 0 ≤ f ∧ f < 18446744073709551616 → 0 ≤ fnvL f s ∧ fnvL f s < 18446744073709551616
  | [], f, h => h
  | c :: s, f, h => fnvL_rng s (fnv1 f c) (fnv1_rng f c)
theorem sumOf_eq (s : List UInt8) : fnvL 14695981039346656037 s = (sumOf s : Int) := by
  have := fnvL_rng s 14695981039346656037 (by decide)
  unfold sumOf
  omega
theorem sumOf_lt (s : List UInt8) : sumOf s < 2 ^ 64 := by
  have := fnvL_rng s 14695981039346656037 (by decide)
  unfold sumOf
  omega
theorem fnvL_snoc (f : Int) {s : List UInt8} {k : Nat} (h : k < s.length) : fnvL f (s.take (k + 1)) = fnv1 (fnvL f (s.take k)) s[k] := by
  unfold fnvL
  rw [List.take_succ_eq_append_getElem h, List.foldl_append]
  rfl
def fnvLL (f : Int) (l : List (List UInt8)) : Int := l.foldl fnvL f
theorem fnvLL_snoc (f : Int) {l : List (List UInt8)} {k : Nat} (h : k < l.length) : fnvLL f (l.take (k + 1)) = fnvL (fnvLL f (l.take k)) l[k] := by
  unfold fnvLL
  rw [List.take_succ_eq_append_getElem h, List.foldl_append]
  rfl
def strs (l : List (List UInt8)) : List TV := l.map fun s => .v (.string (bs s))
@[simp] theorem strs_length (l : List (List UInt8)) : (strs l).length = l.length := by simp [strs]
@[simp] theorem strs_nil : strs [] = [] := rfl
theorem strs_at {l : List (List UInt8)} {k : Nat} (h : k < l.length) : List.drop k (strs l) = .v (.string (bs l[k])) :: List.drop (k + 1) (strs l) := by
  rw [List.drop_eq_getElem_cons (by simpa using h)]; simp [strs]

set_option maxHeartbeats 2000000 in
set_option maxRecDepth 100000 in
theorem FnvAdd_T (f : Int) (l : List (List UInt8)) (hl : l.length ≤ 1000000) (hs : ∀ s ∈ l, s.length ≤ 4611686018427387904) : callT Tryz.prog 71 [.v (.int .u64 f), .isl (strs l) l.length] ⟨[], []⟩ (fun x h => x = .v (.int .u64 (fnvLL f l)) ∧ h = []) := by
  refine callT_of_body [0, 1, 4, 6, 7, 8, 9, 10, 11, 15, 16, 17] [] Tryz.func71 rfl (by decide) (by kernel_rfl) rfl ?_
  simp
  refine loopT_of (Nat × Nat) (fun x => x.1 ≤ l.length) (fun x => ⟨[(0, .v (.int .u64 (fnvLL f (l.take x.1)))), (8, .isl (strs l) l.length), (9, .v (.int .i64 l.length)), (10, .v (.int .i64 x.1))], []⟩) (fun x => l.length - x.1) (0, 0) (by simp) (by simp [fnvLL]) (by simp) ?_
  rintro ⟨k, z⟩ hk
  simp only at hk ⊢
  by_cases g : k < l.length
  · have hat := strs_at g
    have hsn := fnvLL_snoc f g
    have hsl := hs l[k] (List.getElem_mem g)
    have e1 : IntKind.i64.wrap ((k : Int) + 1) = ((k + 1 : Nat) : Int) := by rw [i64_id (by omega) (by omega)]; rfl
    generalize l[k] = s at hat hsn hsl
    generalize fnvLL f (l.take k) = F at hsn ⊢
    simp [g, hat]
    refine loopT_of (Nat × Nat) (fun x => x.1 ≤ s.length) (fun x => ⟨[(0, .v (.int .u64 (fnvL F (s.take x.1)))), (6, .v (.string (bs s))), (8, .isl (strs l) l.length), (9, .v (.int .i64 l.length)), (10, .v (.int .i64 k)), (15, .v (.int .i64 s.length)), (16, .v (.int .i64 x.1))], []⟩) (fun x => s.length - x.1) (0, 0) (by simp) (by simp [fnvL]) (by simp) ?_
    rintro ⟨j, z⟩ hj
    simp only at hj ⊢
    by_cases g2 : j < s.length
    · have hsn2 := fnvL_snoc F g2
      have e2 : IntKind.i64.wrap ((j : Int) + 1) = ((j + 1 : Nat) : Int) := by rw [i64_id (by omega) (by omega)]; rfl
      have e3 : s[j]?.getD 0 = s[j] := by simp [g2]
      have e4 : IntKind.u64.wrap (s[j].toNat : Int) = s[j].toNat := u64_id (by omega) (by have := s[j].toNat_lt; omega)
      simp [g2, e3, e4]
      exact SLx.again (j + 1, 0) (by simp only; omega) (by simp only; omega) (by simp [e2, hsn2, fnv1]) (by simp)
    · have : j = s.length := by omega
      subst this
      simp
      exact SLx.again (k + 1, 0) (by simp only; omega) (by simp only; omega) (by simp [e1, hsn]) (by simp)
  · have : k = l.length := by omega
    subst this
    simp
theorem SumOf_T (s : List UInt8) (hs : s.length ≤ 4611686018427387904) : callT Tryz.prog 44 [.isl [.v (.string (bs s))] 1] ⟨[], []⟩ (fun x h => x = u64c (sumOf s) ∧ h = []) := by
  refine callT_of_body [0, 2] [] Tryz.func44 rfl (by decide) (by kernel_rfl) rfl ?_
  have h := FnvAdd_T 14695981039346656037 [s] (by simp) (by simpa using hs)
  rw [show fnvLL 14695981039346656037 [s] = (sumOf s : Int) from sumOf_eq s] at h
  simp
  refine callT_eq [] h ?_
  simp [strs, u64c]

/-- A piece of a snapshot. -/
structure Pcs where
  t : Int
  b : Int
  h : Nat
  n : Int
  s : List UInt8
def Pcs.cells (p : Pcs) : List TV := [i64c p.t, i64c p.b, u64c p.h, i64c p.n, .v (.string (bs p.s))]
def pcN (b : Int) : Int := (max b 0 + 99) / 100
theorem PcCount_T (b : Int) (hb : b ≤ 4611686018427387904) : callT Tryz.prog 53 [i64c b] ⟨[], []⟩ (fun x h => x = i64c (pcN b) ∧ h = []) := by
  refine callT_of_body [0, 2] [] Tryz.func53 rfl (by decide) (by kernel_rfl) rfl ?_
  have e1 : IntKind.i64.wrap (max b 0 + 100) = max b 0 + 100 := i64_id (by omega) (by omega)
  have e2 : IntKind.i64.wrap (max b 0 + 100 - 1) = max b 0 + 99 := by rw [show max b 0 + 100 - 1 = max b 0 + 99 by omega]; exact i64_id (by omega) (by omega)
  have e3 : (max b 0 + 99).tdiv 100 = (max b 0 + 99) / 100 := Int.tdiv_eq_ediv_of_nonneg (by omega)
  have e4 : IntKind.i64.wrap ((max b 0 + 99) / 100) = (max b 0 + 99) / 100 := i64_id (by omega) (by omega)
  simp [i64c, e1, e2, e3, e4, pcN]
def Pcs.chk (p : Pcs) : Int :=
  if p.t < 0 ∨ 1099511627776 < p.t ∨ p.n < 0 then 4
  else if p.b < 1 ∨ 65536 < p.b then 3
  else if pcN p.b ≤ p.n ∨ (p.s.length : Int) ≠ min 100 (p.b - p.n * 100) then 2
  else 0
theorem PcSize_T (p : Pcs) (hn : 0 ≤ p.n ∧ p.n ≤ 65536) (hb : 0 ≤ p.b ∧ p.b ≤ 65536) : callT Tryz.prog 102 [.agg p.cells] ⟨[], []⟩ (fun x h => x = i64c (min 100 (p.b - p.n * 100)) ∧ h = []) := by
  refine callT_of_body [0, 1, 2] [] Tryz.func102 rfl (by decide) (by kernel_rfl) rfl ?_
  have e1 : IntKind.i64.wrap (p.n * 100) = p.n * 100 := i64_id (by omega) (by omega)
  have e2 : IntKind.i64.wrap (p.b - p.n * 100) = p.b - p.n * 100 := i64_id (by omega) (by omega)
  simp [Pcs.cells, i64c, e1, e2]

set_option maxHeartbeats 4000000 in
set_option maxRecDepth 100000 in
theorem PieChk_T (p : Pcs) (hs : p.s.length ≤ 4611686018427387904) : callT Tryz.prog 85 [.agg p.cells] ⟨[], []⟩ (fun x h => x = i64c p.chk ∧ h = []) := by
  refine callT_of_body [0, 1, 2, 3, 17, 26] [] Tryz.func85 rfl (by decide) (by kernel_rfl) rfl ?_
  have hcnt := PcCount_T p.b
  have hsz := PcSize_T p
  obtain ⟨t, b, h, n, s⟩ := p
  simp only at hs hcnt
  unfold Pcs.chk
  simp only [Pcs.cells, i64c] at hsz hcnt ⊢
  by_cases g1 : t < 0
  · simp [g1, i64c]
  by_cases g2 : 1099511627776 < t
  · simp [g1, g2, i64c]
  by_cases g3 : n < 0
  · simp [g1, g2, g3, i64c]
  by_cases g4 : b < 1
  · simp [g1, g2, g3, g4, i64c]
  by_cases g5 : 65536 < b
  · simp [g1, g2, g3, g4, g5, i64c]
  have hpc : pcN b ≤ 656 := by unfold pcN; omega
  have hc2 := hcnt (by omega)
  simp [g1, g2, g3, g4, g5, i64c]
  intro v1
  by_cases g6 : pcN b ≤ n
  · refine draw_g [0, 1, 2, 3, 4, 5, 6, 7, 8, 9, 10, 11] 12 [(4, [2, 3]), (11, [0, 1, 2, 3, 4, 5, 6, 10])] (by kernel_rfl) (by kernel_rfl) (by kernel_rfl) ?_
    simp
    refine callT_eq [] hc2 ?_
    simp [g6, i64c]
  · refine draw_g [0, 1, 2, 3, 4, 5, 6, 7, 8, 9, 10, 11] 12 [(4, [2, 3]), (11, [0, 1, 2, 3, 4, 5, 6, 10])] (by kernel_rfl) (by kernel_rfl) (by kernel_rfl) ?_
    simp
    refine callT_eq [] hc2 ?_
    simp [g6, i64c]
    refine callT_eq [] (hsz (by omega) (by omega)) ?_
    by_cases g7 : (s.length : Int) = min 100 (b - n * 100)
    · simp [g7, i64c, u64c]
    · simp [g7, i64c, u64c]

def Pcs.bytes (p : Pcs) : List UInt8 := nb p.t.toNat ++ (nb p.b.toNat ++ (nb p.h ++ (nb p.n.toNat ++ (nb p.s.length ++ p.s))))
structure Pcs.ok (p : Pcs) : Prop where
  t : p.t < 2 ^ 63
  b : p.b < 2 ^ 63
  h : p.h < 2 ^ 64
  n : p.n < 2 ^ 63
  s : p.s.length ≤ 1000000

set_option maxHeartbeats 2000000 in
set_option maxRecDepth 100000 in
theorem OutStr_T (v u : Nat) (w : List UInt8) (s : List UInt8) (hw : w.length ≤ 1000000000) (hs : s.length ≤ 1000000) :
    callT Tryz.prog 48 [.at 1000 v 0, .isl [.v (.string (bs s))] 1] ⟨[], outH v u w⟩ (fun r h => ∃ u', r = .at 1000 v 0 ∧ h = outH v u' (w ++ (nb s.length ++ s))) := by
  refine callT_of_body [0, 1, 4, 6, 7, 8, 9, 10] [1000, 1001] Tryz.func48 rfl (by decide) (by kernel_rfl) rfl ?_
  simp
  refine loopT_of (Nat × Nat × List UInt8) (fun x => (x.1 = 0 ∧ x.2.2 = w) ∨ (x.1 = 1 ∧ x.2.2 = w ++ (nb s.length ++ s))) (fun x => ⟨[(0, .at 1000 v 0), (7, .isl [.v (.string (bs s))] 1), (8, .v (.int .i64 1)), (9, .v (.int .i64 x.1))], outH v x.2.1 x.2.2⟩) (fun x => 1 - x.1) (0, u, w) (.inl ⟨rfl, rfl⟩) (by simp) (by simp) ?_
  rintro ⟨k, u1, W⟩ hJ
  simp only at hJ ⊢
  have l1 := nb_len10 (n := s.length) (by omega)
  rcases hJ with ⟨rfl, rfl⟩ | ⟨rfl, rfl⟩
  · have hc := OutCount_T v u1 W [(s.length : Int)] (by simp; omega) (by simp; omega)
    simp
    intro v16
    refine callT.pre (fn_of hc) (CLx.frz 16 rfl (CLx.done ?_))
    simp
    refine callT_ex [(1000, 1000), (1001, 1001)] hc ?_
    have htk : List.take (W.length + (nb s.length).length) (W.map bv ++ (nb s.length).map bv) = W.map bv ++ (nb s.length).map bv := List.take_of_length_le (by simp)
    simp [i64c, htk]
    refine ⟨by omega, fun u3 => ?_⟩
    exact SLx.again (1, u3, W ++ (nb s.length ++ s)) (.inr ⟨rfl, rfl⟩) (by simp) (by simp; exact i64_id (by omega) (by omega)) (by simp [outB]; omega)
  · simp

/-- What is read of bytes as a piece. -/
def In.pcs (i : In) : In × Pcs :=
  let t := i.count 1099511627776
  let b := t.1.count 65536
  let h := b.1.num
  let n := h.1.count 65536
  let s := n.1.str 100
  let p : Pcs := ⟨t.2, b.2, h.2, n.2, s.2⟩
  let j := if s.1.e = 0 then s.1.fail p.chk else s.1
  if j.e ≠ 0 then (j, ⟨0, 0, 0, 0, []⟩) else (j, p)
theorem InStr_T (v : Nat) (i : In) (m : Int) (hm : m ≤ 9223372036854775807) : callT Tryz.prog 91 [.at 1000 v 0, .v (.int .i64 m)] ⟨[], [(1000, v, inB i)]⟩ (fun r h => r = .v (.string (bs (i.str m).2)) ∧ h = [(1000, v, inB (i.str m).1)]) := by
  refine callT_of_body [0, 1, 4] [1000] Tryz.func91 rfl (by decide) (by kernel_rfl) rfl ?_
  simp
  refine callT_eq [(1000, 1000)] (Count_T v i m hm) ?_
  simp
  refine callT_eq [(1000, 1000)] (Raw_T v (i.count m).1 (i.count m).2) ?_
  simp [In.str]
theorem raw_len (i : In) (n : Int) : ((i.raw n).2.length : Int) ≤ max n 0 := by
  unfold In.raw
  split
  · simp; omega
  · split
    · simp; omega
    · rw [List.length_take]; omega
theorem count_le (i : In) {m : Int} (hm : 0 ≤ m) : 0 ≤ (i.count m).2 ∧ (i.count m).2 ≤ m := by
  unfold In.count
  split
  · exact ⟨Int.le_refl 0, hm⟩
  · simp only; omega
theorem str_len (i : In) {m : Int} (hm : 0 ≤ m) : ((i.str m).2.length : Int) ≤ m := by
  have h1 := raw_len (i.count m).1 (i.count m).2
  have h2 := count_le i hm
  unfold In.str
  omega

end Go.Proofs.YtnkdkajllmopaaaGreat.TL
namespace Go.Proofs.YtnkdkajllmopaaaGreat.TL
open Go
set_option linter.unusedVariables false
set_option linter.unusedSimpArgs false

/-- A piece that may be is read of its bytes; what is read is written the same. -/
theorem str_nb (rest : List UInt8) {s : List UInt8} {m : Int} (hm : m < 2 ^ 63) (h : (s.length : Int) ≤ m) : In.str ⟨nb s.length ++ (s ++ rest), 0⟩ m = (⟨rest, 0⟩, s) := by
  have k1 := In.count_nb (s ++ rest) (n := s.length) (m := m) (by omega) h
  unfold In.str
  rw [k1]
  unfold In.raw
  by_cases h0 : s.length = 0
  · have : s = [] := List.eq_nil_of_length_eq_zero h0
    subst this
    simp
  · have g1 : ¬ ((In.mk (s ++ rest) 0).e ≠ 0 ∨ (s.length : Int) ≤ 0) := by simp only [ne_eq, not_true_eq_false, false_or]; omega
    have g2 : ¬ ((In.mk (s ++ rest) 0).l.length : Int) < (s.length : Int) := by simp only [List.length_append]; omega
    simp [g1, g2, h0]
    omega
structure Pcs.wf (p : Pcs) : Prop where
  c : p.chk = 0
  h : p.h < 2 ^ 64
theorem Pcs.wf.rng {p : Pcs} (h : p.wf) : 0 ≤ p.t ∧ p.t ≤ 1099511627776 ∧ 0 ≤ p.n ∧ p.n ≤ 656 ∧ 1 ≤ p.b ∧ p.b ≤ 65536 ∧ (p.s.length : Int) ≤ 100 := by
  have hc := h.c
  unfold Pcs.chk at hc
  split at hc
  · cases hc
  split at hc
  · cases hc
  split at hc
  · cases hc
  unfold pcN at *
  omega
theorem Pcs.wf.ok {p : Pcs} (h : p.wf) : p.ok := by
  have := h.rng
  exact ⟨by omega, by omega, h.h, by omega, by omega⟩
theorem pcs_nb (rest : List UInt8) {p : Pcs} (h : p.wf) : In.pcs ⟨p.bytes ++ rest, 0⟩ = (⟨rest, 0⟩, p) := by
  obtain ⟨h1, h2, h3, h4, h5, h6, h7⟩ := h.rng
  have hc := h.c
  have hh := h.h
  obtain ⟨t, b, hs, n, s⟩ := p
  simp only at h1 h2 h3 h4 h5 h6 h7 hh
  have e1 : (Pcs.mk t b hs n s).bytes ++ rest = nb t.toNat ++ (nb b.toNat ++ (nb hs ++ (nb n.toNat ++ (nb s.length ++ (s ++ rest))))) := by simp [Pcs.bytes]
  have k1 := In.count_nb (nb b.toNat ++ (nb hs ++ (nb n.toNat ++ (nb s.length ++ (s ++ rest))))) (n := t.toNat) (m := 1099511627776) (by decide) (by omega)
  have k2 := In.count_nb (nb hs ++ (nb n.toNat ++ (nb s.length ++ (s ++ rest)))) (n := b.toNat) (m := 65536) (by decide) (by omega)
  have k3 := In.num_nb (nb n.toNat ++ (nb s.length ++ (s ++ rest))) (n := hs) hh
  have k4 := In.count_nb (nb s.length ++ (s ++ rest)) (n := n.toNat) (m := 65536) (by decide) (by omega)
  have k5 := str_nb rest (s := s) (m := 100) (by decide) h7
  have e2 : ((t.toNat : Nat) : Int) = t := by omega
  have e3 : ((b.toNat : Nat) : Int) = b := by omega
  have e4 : ((n.toNat : Nat) : Int) = n := by omega
  unfold In.pcs
  simp only [e1, k1, k2, k3, k4, k5, e2, e3, e4]
  rw [hc]
  simp [In.fail]
theorem raw_ok {i : In} {n : Int} (h : (i.raw n).1.e = 0) (hn : 0 ≤ n) : i.e = 0 ∧ i.l = (i.raw n).2 ++ (i.raw n).1.l ∧ ((i.raw n).2.length : Int) = n := by
  unfold In.raw at h ⊢
  split
  · rename_i hh
    rw [if_pos hh] at h
    simp only at h
    refine ⟨h, by simp, ?_⟩
    rcases hh with hh | hh
    · exact absurd h hh
    · simp; omega
  · rename_i hh
    rw [if_neg hh] at h
    split
    · rename_i h2
      rw [if_pos h2] at h
      simp at h
    · rename_i h2
      rw [if_neg h2] at h
      simp only at h
      refine ⟨by simp only [not_or] at hh; omega, by simp, ?_⟩
      rw [List.length_take]
      omega
theorem str_ok {i : In} {m : Int} (hm : 0 ≤ m) (h : (i.str m).1.e = 0) : i.e = 0 ∧ i.l = nb (i.str m).2.length ++ ((i.str m).2 ++ (i.str m).1.l) := by
  have hc := count_le i hm
  unfold In.str at h ⊢
  obtain ⟨a1, a2, a3⟩ := raw_ok h hc.1
  obtain ⟨b1, b2⟩ := In.count_ok a1
  refine ⟨b1, ?_⟩
  rw [b2, a2]
  have : ((i.count m).1.raw (i.count m).2).2.length = (i.count m).2.toNat := by omega
  rw [this]
theorem failed_ok {i : In} {x : Int} (h : (i.fail x).e = 0) : x = 0 ∧ i.e = 0 ∧ i.fail x = i := by
  unfold In.fail at h ⊢
  split
  · rename_i hh
    rw [if_pos hh] at h
    exact absurd h hh.2
  · rename_i hh
    rw [if_neg hh] at h
    exact ⟨by by_cases hx : x = 0; exact hx; exact absurd ⟨h, hx⟩ hh, h, rfl⟩
theorem pcs_ok {i : In} (h : i.pcs.1.e = 0) : i.e = 0 ∧ i.l = i.pcs.2.bytes ++ i.pcs.1.l ∧ i.pcs.2.wf := by
  unfold In.pcs at h ⊢
  simp only at h ⊢
  generalize ht : i.count 1099511627776 = T at h ⊢
  generalize hb : T.1.count 65536 = B at h ⊢
  generalize hn : B.1.num = H at h ⊢
  generalize hc : H.1.count 65536 = N at h ⊢
  generalize hs : N.1.str 100 = S at h ⊢
  by_cases h5 : S.1.e = 0
  · rw [if_pos h5] at h ⊢
    split at h
    · rename_i h6; exact absurd h h6
    · rename_i h6
      rw [if_neg h6]
      simp only at h ⊢
      obtain ⟨f1, f2, f3⟩ := failed_ok h
      rw [f3]
      obtain ⟨a1, a2⟩ := str_ok (i := N.1) (m := 100) (by decide) (by rw [hs]; exact h5)
      obtain ⟨b1, b2⟩ := In.count_ok (i := H.1) (m := 65536) (by rw [hc]; exact a1)
      obtain ⟨c1, c2⟩ := In.num_ok (i := B.1) (by rw [hn]; exact b1)
      obtain ⟨d1, d2⟩ := In.count_ok (i := T.1) (m := 65536) (by rw [hb]; exact c1)
      obtain ⟨e1, e2⟩ := In.count_ok (i := i) (m := 1099511627776) (by rw [ht]; exact d1)
      have hlt := In.num_lt B.1
      rw [hs] at a2
      rw [hc] at b2
      rw [hn] at c2 hlt
      rw [hb] at d2
      rw [ht] at e2
      refine ⟨e1, ?_, f1, hlt⟩
      rw [e2, d2, c2, b2, a2]
      simp [Pcs.bytes]
  · rw [if_neg h5, if_pos h5] at h
    exact absurd h h5
end Go.Proofs.YtnkdkajllmopaaaGreat.TL
namespace Go.Proofs.YtnkdkajllmopaaaGreat.TL
open Go
set_option linter.unusedVariables false
set_option linter.unusedSimpArgs false

def rowQ (l : List Pcs) : List TV := (l.map Pcs.cells).flatten
@[simp] theorem rowQ_nil : rowQ [] = [] := rfl
@[simp] theorem rowQ_cons (o : Pcs) (l : List Pcs) : rowQ (o :: l) = o.cells ++ rowQ l := rfl
@[simp] theorem rowQ_length : ∀ l : List Pcs, (rowQ l).length = l.length * 5
  | [] => rfl
  | o :: l => by rw [rowQ_cons, List.length_append, rowQ_length l, List.length_cons, show o.cells.length = 5 from rfl]; omega
theorem rowQ_drop : ∀ (n : Nat) (l : List Pcs), (rowQ l).drop (n * 5) = rowQ (l.drop n)
  | 0, l => by simp
  | n + 1, [] => by simp [rowQ]
  | n + 1, c :: l => by
    rw [show (n + 1) * 5 = n * 5 + 5 by omega]
    have := rowQ_drop n l
    simpa [rowQ, Pcs.cells] using this
theorem rowQ_at {l : List Pcs} {k : Nat} (h : k < l.length) : List.drop (k * 5) (rowQ l) = i64c l[k].t :: i64c l[k].b :: u64c l[k].h :: i64c l[k].n :: .v (.string (bs l[k].s)) :: rowQ (l.drop (k + 1)) := by
  rw [rowQ_drop, List.drop_eq_getElem_cons h]
  rfl
theorem rowQ_snoc (l : List Pcs) (c : Pcs) : rowQ (l ++ [c]) = rowQ l ++ c.cells := by simp [rowQ]
theorem rowQ_tk (l : List Pcs) : List.take (l.length * 5) (rowQ l) = rowQ l := List.take_of_length_le (by simp)
@[simp] theorem rowQ_CloL : ∀ l : List Pcs, CloL (rowQ l)
  | [] => trivial
  | o :: l => ⟨trivial, trivial, trivial, trivial, trivial, rowQ_CloL l⟩

/-- The n-th piece of a text; the first so many. -/
def pieceAt (t : Int) (s : List UInt8) (n : Nat) : Pcs := ⟨t, s.length, sumOf s, n, (s.drop (n * 100)).take (min ((n + 1) * 100) s.length - n * 100)⟩
def pieces (t : Int) (s : List UInt8) (k : Nat) : List Pcs := (List.range k).map (pieceAt t s)
@[simp] theorem pieces_length (t : Int) (s : List UInt8) (k : Nat) : (pieces t s k).length = k := by simp [pieces]
theorem pieces_succ (t : Int) (s : List UInt8) (k : Nat) : pieces t s (k + 1) = pieces t s k ++ [pieceAt t s k] := by simp [pieces, List.range_succ]
theorem pieces_get {t : Int} {s : List UInt8} {k i : Nat} (h : i < (pieces t s k).length) : (pieces t s k)[i] = pieceAt t s i := by simp [pieces]
def split (t : Int) (s : List UInt8) : List Pcs := pieces t s ((s.length + 99) / 100)
theorem pieceAt_wf {t : Int} {s : List UInt8} {n : Nat} (ht : 0 ≤ t ∧ t ≤ 1099511627776) (hl : s.length ≤ 65536) (hn : n < (s.length + 99) / 100) : (pieceAt t s n).wf := by
  refine ⟨?_, sumOf_lt s⟩
  have hlen : ((pieceAt t s n).s.length : Int) = min 100 ((s.length : Int) - n * 100) := by
    simp only [pieceAt, List.length_take, List.length_drop]
    omega
  unfold Pcs.chk
  rw [hlen, if_neg (by simp only [pieceAt]; omega), if_neg (by simp only [pieceAt]; omega), if_neg (by simp only [pieceAt]; unfold pcN; omega)]

set_option maxHeartbeats 2000000 in
set_option maxRecDepth 100000 in
theorem Split_T (t : Int) (s : List UInt8) (hs : s.length ≤ 65536) : callT Tryz.prog 26 [i64c t, .v (.string (bs s))] ⟨[], []⟩ (fun x h => x = .isl (rowQ (split t s)) (split t s).length ∧ h = []) := by
  refine callT.mono (K := fun x h => ∃ u, x = .sl 1001 u 0 (split t s).length ∧ h = [(1001, u, ⟨5, rowQ (split t s)⟩)]) ?_ fun x h hh => ?_
  · refine callT_of_body [0, 1, 4, 5, 6, 7, 10, 20, 21, 22] [1001] Tryz.func26 rfl (by decide) (by kernel_rfl) rfl ?_
    have g0 : ¬ 65536 < s.length := by omega
    have g0' : ¬ (65536 : Int) < s.length := by omega
    have hcn := PcCount_T (s.length : Int) (by omega)
    have hpn : pcN (s.length : Int) = ((s.length + 99) / 100 : Nat) := by unfold pcN; omega
    rw [hpn] at hcn
    have hsp : split t s = pieces t s ((s.length + 99) / 100) := rfl
    have hNb : (s.length + 99) / 100 ≤ 656 := by omega
    have hN1 : ∀ k, k < (s.length + 99) / 100 → k * 100 ≤ s.length := fun k hk => by omega
    generalize (s.length + 99) / 100 = N at hcn hsp hNb hN1
    rw [hsp]
    simp [i64c, g0, g0']
    intro v15
    have hsum := SumOf_T s (by omega)
    refine callT.pre (fn_of hsum) (CLx.frz 15 rfl (CLx.done ?_))
    simp
    refine callT_eq [] hsum ?_
    simp [u64c]
    intro v5
    refine callT_eq [] hcn ?_
    simp [i64c]
    refine ⟨Nat × Nat, fun x => x.1 ≤ N, fun x => ⟨[(1, .v (.string (bs s))), (5, .at 5 v5 0), (6, .sl 1001 x.2 0 x.1), (20, .v (.int .i64 N)), (21, .v (.int .i64 x.1))], [(5, v5, ⟨0, [i64c t, i64c s.length, u64c (sumOf s)]⟩), (1001, x.2, ⟨5, rowQ (pieces t s x.1)⟩)]⟩, fun x => N - x.1, ?_, ?_⟩
    · refine SLx.nil 6 1001 5 (by decide) (by simp) fun u => SLx.fin _ ⟨(0, u), by simp, rfl⟩ ?_ ?_
      · simp
      · simp [i64c, u64c, setH, pieces]
    rintro ⟨k, u⟩ hk
    simp only at hk ⊢
    by_cases g : k < N
    · have hk1 := hN1 k g
      have e1 : IntKind.i64.wrap ((k : Int) + 1) = ((k + 1 : Nat) : Int) := by rw [i64_id (by omega) (by omega)]; rfl
      have e2 : IntKind.i64.wrap ((k : Int) * 100) = ((k * 100 : Nat) : Int) := by rw [i64_id (by omega) (by omega)]; rfl
      have e3 : IntKind.i64.wrap (((k : Int) + 1) * 100) = (((k + 1) * 100 : Nat) : Int) := by rw [i64_id (by omega) (by omega)]; omega
      have e4 : min (((k + 1) * 100 : Nat) : Int) (s.length : Int) = ((min ((k + 1) * 100) s.length : Nat) : Int) := by omega
      have e5 : (((min ((k + 1) * 100) s.length : Nat) : Int) - ((k * 100 : Nat) : Int)).toNat = min ((k + 1) * 100) s.length - k * 100 := by omega
      have hsn := pieces_succ t s k
      have hpl := pieces_length t s k
      generalize pieces t s k = F at hsn hpl ⊢
      have htk : List.take (k * 5) (rowQ F) = rowQ F := List.take_of_length_le (by simp; omega)
      have hdr : List.drop (k * 5 + 5) (rowQ F) = [] := List.drop_of_length_le (by simp; omega)
      generalize hP : (s.drop (k * 100)).take (min ((k + 1) * 100) s.length - k * 100) = P at *
      have hpa : pieceAt t s k = ⟨t, s.length, sumOf s, k, P⟩ := by simp only [pieceAt, hP]
      rw [hpa] at hsn
      have m1 : k * 100 ≤ min ((k + 1) * 100) s.length := by omega
      have m2 : min ((k + 1) * 100) s.length ≤ s.length := by omega
      generalize hM : min ((k + 1) * 100) s.length = M at *
      generalize hQ : (k + 1) * 100 = Q at *
      generalize hR : k * 100 = R0 at *
      simp only [g, i64c, u64c]
      simp [g, e1, e2]
      refine draw_g [0, 1, 2, 3, 4, 5, 6, 7, 8, 9, 10, 11, 12, 13, 14, 15, 16, 17, 18, 19] 20 [] (by kernel_rfl) (by kernel_rfl) (by kernel_rfl) ?_
      simp [e1, e2, e3, e4]
      repeat refine ⟨by omega, ?_⟩
      rw [hP]
      intro u2
      exact SLx.again (k + 1, u2) (by simp only; omega) (by simp only; omega) (by simp) (by simp [hsn, htk, hdr, rowQ_snoc, Pcs.cells, i64c, u64c])
    · have : k = N := by omega
      subst this
      simp
  · obtain ⟨u, rfl, rfl⟩ := hh
    refine VLx.frz 1001 rfl (VLx.done ?_)
    simp [rowQ_tk]
end Go.Proofs.YtnkdkajllmopaaaGreat.TL
namespace Go.Proofs.YtnkdkajllmopaaaGreat.TL
open Go
set_option linter.unusedVariables false
set_option linter.unusedSimpArgs false

structure Gth where
  t : Int
  b : Int
  h : Nat
  g : Bool
  m : List (Int × List UInt8)
def strT (s : List UInt8) : TV := .v (.string (bs s))
@[simp] theorem ren_strT (τ : Nat → Option Nat) (s : List UInt8) : renT τ (strT s) = strT s := rfl
@[simp] theorem ok_strT (m : Nat → Prop) (s : List UInt8) : okT m (strT s) := trivial
@[simp] theorem mv_strT (b v b' v' : Nat) (s : List UInt8) : mvT b v b' v' (strT s) = strT s := rfl
@[simp] theorem renL_strs (τ : Nat → Option Nat) (M : List (Int × List UInt8)) : renL τ (mapC .i64 strT M) = mapC .i64 strT M := renL_mapC (fun _ => rfl) M
@[simp] theorem okL_strs (m : Nat → Prop) (M : List (Int × List UInt8)) : okL m (mapC .i64 strT M) := okL_mapC (fun s => ok_strT m s) M
@[simp] theorem mapC_nil : mapC .i64 strT [] = [] := rfl
def Gth.cells (G : Gth) (j w : Nat) : List TV := [i64c G.t, i64c G.b, u64c G.h, .v (.bool G.g), .mp j w]
def gatH (i j v w : Nat) (G : Gth) : Heap := [(i, v, ⟨0, G.cells j w⟩), (j, w, ⟨0, mapC .i64 strT G.m⟩)]
def Gth.like (G : Gth) (p : Pcs) : Bool := decide (p.t = G.t) && (decide (p.b = G.b) && decide (p.h = G.h))
def Gth.put (G : Gth) (p : Pcs) : Gth × Int :=
  if p.chk ≠ 0 then (G, p.chk)
  else if G.g = true ∧ G.like p = false then
    if p.t ≤ G.t then (G, 11) else (⟨p.t, p.b, p.h, true, [(p.n, p.s)]⟩, 0)
  else if G.g = false then (⟨p.t, p.b, p.h, true, [(p.n, p.s)]⟩, 0)
  else if (lkp p.n G.m).isSome = true then (G, 10) else (⟨G.t, G.b, G.h, G.g, ins p.n p.s G.m⟩, 0)

theorem PcHead_T (p : Pcs) : callT Tryz.prog 86 [.agg p.cells] ⟨[], []⟩ (fun x h => x = .agg [i64c p.t, i64c p.b, u64c p.h] ∧ h = []) := by
  refine callT_of_body [0, 1, 2] [] Tryz.func86 rfl (by decide) (by kernel_rfl) rfl ?_
  simp [Pcs.cells, i64c, u64c]
theorem GNew_T : callT Tryz.prog 33 [] ⟨[], []⟩ (fun x h => ∃ w v, x = .at 3 v 0 ∧ h = [(1, w, ⟨0, []⟩), (3, v, ⟨0, [i64c 0, i64c 0, u64c 0, .v (.bool false), .mp 1 w]⟩)]) := by
  refine callT_of_body [0] [1, 3] Tryz.func33 rfl (by decide) (by kernel_rfl) rfl ?_
  simp [i64c, u64c]
theorem GHave_T (v w : Nat) (G : Gth) (hb : G.b ≤ 4611686018427387904) : callT Tryz.prog 87 [.at 1000 v 0] ⟨[], gatH 1000 1001 v w G⟩ (fun x h => x = .tup (if G.g = true then [i64c G.m.length, i64c (pcN G.b)] else [i64c 0, i64c 0]) ∧ h = gatH 1000 1001 v w G) := by
  refine callT_of_body [0, 2, 3, 8] [1000, 1001] Tryz.func87 rfl (by decide) (by kernel_rfl) rfl ?_
  cases hg : G.g
  · simp [gatH, Gth.cells, i64c, u64c, hg]
  · simp [gatH, Gth.cells, i64c, u64c, hg]
    have hc := PcCount_T G.b hb
    simp [i64c] at hc
    refine draw_g [0, 1, 2, 3, 4, 5, 6, 7, 8, 9] 10 [] (by kernel_rfl) (by kernel_rfl) (by kernel_rfl) ?_
    simp
    refine callT_eq [] hc ?_
    simp
set_option maxHeartbeats 4000000 in
set_option maxRecDepth 100000 in
theorem GPut_T (v w : Nat) (G : Gth) (p : Pcs) (hp : p.s.length ≤ 4611686018427387904) : callT Tryz.prog 68 [.at 1000 v 0, .agg p.cells] ⟨[], gatH 1000 1001 v w G⟩ (fun x h => ∃ w', x = i64c (G.put p).2 ∧ h = gatH 1000 1001 v w' (G.put p).1) := by
  refine callT.mono (K := fun x h => (x = i64c (G.put p).2 ∧ h = gatH 1000 1001 v w (G.put p).1) ∨ ∃ w', x = i64c (G.put p).2 ∧ h = [(1000, v, ⟨0, (G.put p).1.cells 57 w'⟩), (1001, w, ⟨0, mapC .i64 strT G.m⟩), (57, w', ⟨0, mapC .i64 strT (G.put p).1.m⟩)]) ?_ fun x h hh => ?_
  · refine callT_of_body [0, 1, 3, 4, 5, 7, 11, 13, 37, 74] [1000, 1001, 57] Tryz.func68 rfl (by decide) (by kernel_rfl) rfl ?_
    have hchk := PieChk_T p hp
    have hhd := PcHead_T p
    simp [Pcs.cells, i64c, u64c] at hchk hhd
    simp [gatH, Gth.cells, Pcs.cells, i64c, u64c]
    intro v3
    refine callT_eq [] hchk ?_
    have hput : ∀ (x : TV), x = strT p.s → mput .i64 p.n x [] = mapC .i64 strT [(p.n, p.s)] := fun x hx => by subst hx; rfl
    have hput2 : mput .i64 p.n (.v (.string (bs p.s))) (mapC .i64 strT G.m) = mapC .i64 strT (ins p.n p.s G.m) := mput_mapC (g := strT) (x := .v (.string (bs p.s))) p.n p.s rfl G.m
    by_cases hc : p.chk = 0
    · cases hg : G.g
      · simp [hc]
        refine draw_g [0, 1, 2, 3, 4, 5, 7, 8, 9, 10, 6, 11, 12, 13, 14, 15, 16, 17, 18, 19, 20] 21 [(6, [0, 1, 2, 3, 4, 5])] (by kernel_rfl) (by kernel_rfl) (by kernel_rfl) ?_
        simp
        refine draw_g [0, 1, 2, 3, 4, 5, 6, 8, 9, 10, 11, 7] 12 [(7, [0, 1, 2, 3, 4, 5, 6])] (by kernel_rfl) (by kernel_rfl) (by kernel_rfl) ?_
        simp
        refine callT_eq [] hhd ?_
        simp
        intro w2
        refine draw_g [0, 1, 2, 3, 4, 5, 6, 7, 8, 9, 10] 11 [] (by kernel_rfl) (by kernel_rfl) (by kernel_rfl) ?_
        simp [mget]
        refine draw_g [0, 1, 2, 3, 4, 5, 6, 7] 8 [] (by kernel_rfl) (by kernel_rfl) (by kernel_rfl) ?_
        simp [mput, hput, Gth.put, hc, hg]
        rfl
      · by_cases hl : G.like p = true
        · have hl' := hl
          simp only [Gth.like, Bool.and_eq_true, decide_eq_true_eq] at hl'
          obtain ⟨e1, e2, e3⟩ := hl'
          simp [hc]
          refine draw_g [0, 1, 2, 3, 4, 5, 7, 8, 9, 10, 6, 11, 12, 13, 14, 15, 16, 17, 18, 19, 20] 21 [(6, [0, 1, 2, 3, 4, 5])] (by kernel_rfl) (by kernel_rfl) (by kernel_rfl) ?_
          simp
          refine callT_eq [] hhd ?_
          simp [e1, e2, e3]
          refine draw_g [0, 1, 2, 3, 4, 5, 6, 8, 9, 10, 11, 7] 12 [(7, [0, 1, 2, 3, 4, 5, 6])] (by kernel_rfl) (by kernel_rfl) (by kernel_rfl) ?_
          simp
          refine callT_eq [] hhd ?_
          simp [e1, e2, e3]
          refine draw_g [0, 1, 2, 3, 4, 5, 6, 7, 8, 9, 10] 11 [] (by kernel_rfl) (by kernel_rfl) (by kernel_rfl) ?_
          simp
          cases hk : lkp p.n G.m with
          | none =>
            simp [hk]
            refine draw_g [0, 1, 2, 3, 4, 5, 6, 7] 8 [] (by kernel_rfl) (by kernel_rfl) (by kernel_rfl) ?_
            simp [hput2]
            simp [Gth.put, hc, hg, hl, hk]
          | some y => simp [hk, Gth.put, hc, hg, hl]
        · have hl' : G.like p = false := by simpa using hl
          have hcs : ¬ p.t = G.t ∨ (p.t = G.t ∧ ¬ p.b = G.b) ∨ (p.t = G.t ∧ p.b = G.b ∧ ¬ (p.h : Int) = G.h) := by
            simp only [Gth.like, Bool.and_eq_false_imp, decide_eq_true_eq, decide_eq_false_iff_not] at hl'
            by_cases h1 : p.t = G.t
            · by_cases h2 : p.b = G.b
              · exact .inr (.inr ⟨h1, h2, fun hh => hl' h1 h2 (by omega)⟩)
              · exact .inr (.inl ⟨h1, h2⟩)
            · exact .inl h1
          by_cases hle : p.t ≤ G.t
          · rcases hcs with h1 | ⟨h1, h2⟩ | ⟨h1, h2, h3⟩
            · simp [hc]
              refine draw_g [0, 1, 2, 3, 4, 5, 7, 8, 9, 10, 6, 11, 12, 13, 14, 15, 16, 17, 18, 19, 20] 21 [(6, [0, 1, 2, 3, 4, 5])] (by kernel_rfl) (by kernel_rfl) (by kernel_rfl) ?_
              simp
              refine callT_eq [] hhd ?_
              simp [h1, hle]
              simp [Gth.put, hc, hg, hl', hle]
            · simp [hc]
              refine draw_g [0, 1, 2, 3, 4, 5, 7, 8, 9, 10, 6, 11, 12, 13, 14, 15, 16, 17, 18, 19, 20] 21 [(6, [0, 1, 2, 3, 4, 5])] (by kernel_rfl) (by kernel_rfl) (by kernel_rfl) ?_
              simp
              refine callT_eq [] hhd ?_
              simp [h1, h2, hle]
              simp [Gth.put, hc, hg, hl', h1]
            · simp [hc]
              refine draw_g [0, 1, 2, 3, 4, 5, 7, 8, 9, 10, 6, 11, 12, 13, 14, 15, 16, 17, 18, 19, 20] 21 [(6, [0, 1, 2, 3, 4, 5])] (by kernel_rfl) (by kernel_rfl) (by kernel_rfl) ?_
              simp
              refine callT_eq [] hhd ?_
              simp [h1, h2, h3, hle]
              simp [Gth.put, hc, hg, hl', h1]
          · rcases hcs with h1 | ⟨h1, h2⟩ | ⟨h1, h2, h3⟩
            · simp [hc]
              refine draw_g [0, 1, 2, 3, 4, 5, 7, 8, 9, 10, 6, 11, 12, 13, 14, 15, 16, 17, 18, 19, 20] 21 [(6, [0, 1, 2, 3, 4, 5])] (by kernel_rfl) (by kernel_rfl) (by kernel_rfl) ?_
              simp
              refine callT_eq [] hhd ?_
              simp [h1, hle]
              refine draw_g [0, 1, 2, 3, 4, 5, 6, 8, 9, 10, 11, 7] 12 [(7, [0, 1, 2, 3, 4, 5, 6])] (by kernel_rfl) (by kernel_rfl) (by kernel_rfl) ?_
              simp
              refine callT_eq [] hhd ?_
              simp [h1]
              refine callT_eq [] hhd ?_
              simp
              intro w2
              refine draw_g [0, 1, 2, 3, 4, 5, 6, 7, 8, 9, 10] 11 [] (by kernel_rfl) (by kernel_rfl) (by kernel_rfl) ?_
              simp [mget]
              refine draw_g [0, 1, 2, 3, 4, 5, 6, 7] 8 [] (by kernel_rfl) (by kernel_rfl) (by kernel_rfl) ?_
              simp [mput, hput, Gth.put, hc, hg, hl', hle]
              rfl
            · omega
            · omega
    · simp [hc, Gth.put]
  · rcases hh with ⟨rfl, rfl⟩ | ⟨w', rfl, rfl⟩
    · exact VLx.done ⟨w, rfl, rfl⟩
    · refine VLx.sub [(1000, v, ⟨0, (G.put p).1.cells 57 w'⟩), (57, w', ⟨0, mapC .i64 strT (G.put p).1.m⟩)] (by simp) ?_
      refine VLx.mv 57 1001 rfl rfl fun w2 => VLx.done ⟨w2, ?_, ?_⟩
      · simp [mvT, i64c]
      · rw [show (mvH 57 w' 1001 w2 [(1000, v, ⟨0, (G.put p).1.cells 57 w'⟩), (57, w', ⟨0, mapC .i64 strT (G.put p).1.m⟩)]) = [(1000, v, ⟨0, mvL 57 w' 1001 w2 ((G.put p).1.cells 57 w')⟩), (1001, w2, ⟨0, mvL 57 w' 1001 w2 (mapC .i64 strT (G.put p).1.m)⟩)] from rfl, mvL_mapC (g := strT) (fun _ => rfl)]
        simp [gatH, Gth.cells, mvL, mvT, i64c, u64c]

/-- The texts, one behind the other. -/
def catL (m : List (Int × List UInt8)) : Nat → List UInt8
  | 0 => []
  | n + 1 => catL m n ++ (lkp n m).getD []
theorem catL_len {m : List (Int × List UInt8)} (h : ∀ p ∈ m, p.2.length ≤ 100) : ∀ n, (catL m n).length ≤ n * 100
  | 0 => by simp [catL]
  | n + 1 => by
    have ih := catL_len h n
    simp only [catL, List.length_append]
    cases hk : lkp (n : Int) m with
    | none => simp; omega
    | some s =>
      have := h _ (lkp_mem hk)
      simp at this ⊢
      omega
def Gth.whole (G : Gth) : List UInt8 × Int × Int :=
  if G.g = false ∨ (G.m.length : Int) < pcN G.b ∨ pcN G.b = 0 then ([], 0, 15)
  else if sumOf (catL G.m (pcN G.b).toNat) ≠ G.h then ([], 0, 5) else (catL G.m (pcN G.b).toNat, G.t, 0)
theorem getD_strT (o : Option (List UInt8)) : (Option.map strT o).getD (.v (.string (bs []))) = .v (.string (bs (o.getD []))) := by cases o <;> rfl
theorem pcN_rng {b : Int} (h : b ≤ 65536) : 0 ≤ pcN b ∧ pcN b ≤ 656 := by unfold pcN; omega
set_option maxHeartbeats 4000000 in
set_option maxRecDepth 100000 in
theorem GWhole_T (v w : Nat) (G : Gth) (hb : G.b ≤ 65536) (hm : ∀ p ∈ G.m, p.2.length ≤ 100) (hh : G.h < 2 ^ 64) : callT Tryz.prog 69 [.at 1000 v 0] ⟨[], gatH 1000 1001 v w G⟩ (fun x h => x = .tup [.v (.string (bs G.whole.1)), i64c G.whole.2.1, i64c G.whole.2.2] ∧ h = gatH 1000 1001 v w G) := by
  refine callT_of_body [0, 2, 3, 4, 5, 6, 7, 8, 20, 21, 22, 23, 42] [1000, 1001] Tryz.func69 rfl (by decide) (by kernel_rfl) rfl ?_
  have hhv := GHave_T v w G (by omega)
  have hn := pcN_rng hb
  have hw : G.whole = G.whole := rfl
  conv at hw => rhs; unfold Gth.whole
  generalize G.whole = W at hw ⊢
  cases hg : G.g
  · simp [hg] at hw
    subst hw
    simp [gatH, Gth.cells, i64c, u64c, hg] at hhv ⊢
    refine callT_eq [(1000, 1000), (1001, 1001)] hhv ?_
    simp [bs_nil]
  · simp [hg] at hw
    simp [gatH, Gth.cells, i64c, u64c, hg] at hhv ⊢
    refine callT_eq [(1000, 1000), (1001, 1001)] hhv ?_
    by_cases hc : (G.m.length : Int) < pcN G.b ∨ pcN G.b = 0
    · rw [if_pos hc] at hw
      subst hw
      rcases hc with hc | hc
      · simp [hc, bs_nil]
      · simp [hc, bs_nil]
    · rw [if_neg hc] at hw
      have hc1 : ¬ (G.m.length : Int) < pcN G.b := fun h => hc (.inl h)
      have hc2 : ¬ pcN G.b = 0 := fun h => hc (.inr h)
      obtain ⟨n, hn1, hn2⟩ : ∃ n : Nat, pcN G.b = n ∧ n ≤ 656 := ⟨(pcN G.b).toNat, by omega, by omega⟩
      rw [hn1] at hw hc1 hc2 hn ⊢
      simp only [Int.toNat_natCast] at hw
      have hc3 : (n : Int) ≤ G.m.length := by omega
      have hc4 : n ≤ G.m.length := by omega
      have hc5 : ¬ n = 0 := by omega
      simp [hc1, hc2, hc3, hc4, hc5]
      refine loopT_of Nat (fun k => k ≤ n) (fun k => ⟨[(0, .at 1000 v 0), (21, i64c n), (22, i64c k), (7, .v (.string (bs (catL G.m k))))], [(1000, v, ⟨0, [i64c G.t, i64c G.b, u64c G.h, .v (.bool true), .mp 1001 w]⟩), (1001, w, ⟨0, mapC .i64 strT G.m⟩)]⟩) (fun k => n - k) 0 (by simp) (by simp [i64c, catL, bs_nil]) (by simp [i64c, u64c]) ?_
      intro k hk
      have hcl := catL_len hm
      by_cases g : k < n
      · have g' : (k : Int) < n := by omega
        have hw1 : IntKind.i64.wrap ((k : Int) + 1) = ((k + 1 : Nat) : Int) := by rw [i64_id (by omega) (by omega)]; rfl
        have hcl1 := hcl (k + 1)
        simp only [catL, List.length_append] at hcl1
        simp [i64c, u64c, g, g', getD_strT]
        refine ⟨by omega, ?_⟩
        exact SLx.again (k + 1) (by omega) (by omega) (by simp [hw1, catL]) (by simp)
      · have : k = n := by omega
        subst this
        have hck := hcl k
        have hs := SumOf_T (catL G.m k) (by omega)
        simp [u64c] at hs
        simp [i64c, u64c]
        refine draw_g [0, 1, 3, 4, 5, 6, 7, 2] 8 [(2, [0, 1])] (by kernel_rfl) (by kernel_rfl) (by kernel_rfl) ?_
        simp
        refine callT_eq [] hs ?_
        by_cases he : sumOf (catL G.m k) = G.h
        · rw [if_pos he] at hw
          subst hw
          simp [he]
          refine draw_g [0, 1, 2, 3, 4, 5, 6] 7 [] (by kernel_rfl) (by kernel_rfl) (by kernel_rfl) ?_
          simp
        · rw [if_neg he] at hw
          subst hw
          have he' : ¬ (sumOf (catL G.m k) : Int) = G.h := by omega
          simp [he', bs_nil]
def missL (m : List (Int × List UInt8)) (most : Int) : Nat → List Int
  | 0 => []
  | k + 1 => if ((missL m most k).length : Int) < most ∧ lkp (k : Int) m = none then missL m most k ++ [(k : Int)] else missL m most k
theorem missL_len (m : List (Int × List UInt8)) (most : Int) : ∀ k, (missL m most k).length ≤ k
  | 0 => Nat.le_refl _
  | k + 1 => by
    have := missL_len m most k
    simp only [missL]
    split
    · simp; omega
    · omega
theorem missL_stop {m : List (Int × List UInt8)} {most : Int} {k : Nat} (h : ¬ ((missL m most k).length : Int) < most) : ∀ j, missL m most (k + j) = missL m most k
  | 0 => rfl
  | j + 1 => by
    rw [← Nat.add_assoc, missL, missL_stop h j, if_neg (fun hh => h hh.1)]
def Gth.n (G : Gth) : Nat := if G.g = true then (pcN G.b).toNat else 0
end Go.Proofs.YtnkdkajllmopaaaGreat.TL
