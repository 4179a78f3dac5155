/- The law's Tidy; orders, told. -/
import Derived.Test.YtkggjmoghpmelaaURead
namespace Go.Proofs.Ytkggjmoghpmelaa.TL
open Go
set_option linter.unusedVariables false
set_option linter.unusedSimpArgs false

theorem i64_and255 (n : Int) : Go.bits .and .i64 n 255 = n % 256 := by
  have := Int.emod_nonneg n (show (18446744073709551616 : Int) ≠ 0 by decide)
  show IntKind.i64.wrap ((BitVec.ofInt 64 n &&& BitVec.ofInt 64 255).toNat : Int) = _
  rw [BitVec.toNat_and, BitVec.toNat_ofInt, show (BitVec.ofInt 64 255).toNat = 2 ^ 8 - 1 from rfl, Nat.and_two_pow_sub_one_eq_mod, IntKind.wrap_i64]
  omega
theorem i64_and65535 (n : Int) : Go.bits .and .i64 n 65535 = n % 65536 := by
  have := Int.emod_nonneg n (show (18446744073709551616 : Int) ≠ 0 by decide)
  show IntKind.i64.wrap ((BitVec.ofInt 64 n &&& BitVec.ofInt 64 65535).toNat : Int) = _
  rw [BitVec.toNat_and, BitVec.toNat_ofInt, show (BitVec.ofInt 64 65535).toNat = 2 ^ 16 - 1 from rfl, Nat.and_two_pow_sub_one_eq_mod, IntKind.wrap_i64]
  omega
theorem i64_and63 (n : Int) : Go.bits .and .i64 n 63 = n % 64 := by
  have := Int.emod_nonneg n (show (18446744073709551616 : Int) ≠ 0 by decide)
  show IntKind.i64.wrap ((BitVec.ofInt 64 n &&& BitVec.ofInt 64 63).toNat : Int) = _
  rw [BitVec.toNat_and, BitVec.toNat_ofInt, show (BitVec.ofInt 64 63).toNat = 2 ^ 6 - 1 from rfl, Nat.and_two_pow_sub_one_eq_mod, IntKind.wrap_i64]
  omega
theorem i64_and127 (n : Int) : Go.bits .and .i64 n 127 = n % 128 := by
  have := Int.emod_nonneg n (show (18446744073709551616 : Int) ≠ 0 by decide)
  show IntKind.i64.wrap ((BitVec.ofInt 64 n &&& BitVec.ofInt 64 127).toNat : Int) = _
  rw [BitVec.toNat_and, BitVec.toNat_ofInt, show (BitVec.ofInt 64 127).toNat = 2 ^ 7 - 1 from rfl, Nat.and_two_pow_sub_one_eq_mod, IntKind.wrap_i64]
  omega

def tk (o : Ord) : Int := 1 + o.k % 4
def tidy1 (o : Ord) : Ord :=
  if tk o = 2 then ⟨2, 1 + o.u % 64, 1 + o.a % 128, 0⟩
  else if tk o = 3 then ⟨3, 0, 1 + o.a % 128, o.b % 128⟩
  else if tk o = 4 then ⟨4, 1 + o.u % 64, 0, 0⟩
  else ⟨1, 1 + o.u % 64, 1 + o.a % 128, o.b % 128⟩
def tidy (l : List Ord) : List Ord := (l.take 8).map tidy1
theorem tidy_length (l : List Ord) : (tidy l).length = min 8 l.length := by simp [tidy]
theorem tidy1_chk (o : Ord) : (tidy1 o).chk = 0 := by
  have h1 := Int.emod_nonneg o.u (show (64 : Int) ≠ 0 by decide)
  have h2 := Int.emod_lt_of_pos o.u (show (0 : Int) < 64 by decide)
  have h3 := Int.emod_nonneg o.a (show (128 : Int) ≠ 0 by decide)
  have h4 := Int.emod_lt_of_pos o.a (show (0 : Int) < 128 by decide)
  have h5 := Int.emod_nonneg o.b (show (128 : Int) ≠ 0 by decide)
  have h6 := Int.emod_lt_of_pos o.b (show (0 : Int) < 128 by decide)
  unfold tidy1
  split
  · unfold Ord.chk far; simp; omega
  split
  · unfold Ord.chk far; simp; omega
  split
  · unfold Ord.chk far; simp; omega
  · unfold Ord.chk far; simp; omega
theorem tidy1_ok (o : Ord) : (tidy1 o).ok := by
  have h1 := Int.emod_nonneg o.u (show (64 : Int) ≠ 0 by decide)
  have h2 := Int.emod_lt_of_pos o.u (show (0 : Int) < 64 by decide)
  have h3 := Int.emod_nonneg o.a (show (128 : Int) ≠ 0 by decide)
  have h4 := Int.emod_lt_of_pos o.a (show (0 : Int) < 128 by decide)
  have h5 := Int.emod_nonneg o.b (show (128 : Int) ≠ 0 by decide)
  have h6 := Int.emod_lt_of_pos o.b (show (0 : Int) < 128 by decide)
  unfold tidy1 Ord.ok i64ok
  split
  · simp; omega
  split
  · simp; omega
  split
  · simp; omega
  · simp; omega

set_option maxHeartbeats 4000000 in
set_option maxRecDepth 100000 in
theorem Tidy_T (l : List Ord) : callT Try.prog 30 [.isl (rowC l) l.length] ⟨[], []⟩ (fun x h => x = .isl (rowC (tidy l)) (tidy l).length ∧ h = []) := by
  refine callT.mono (K := fun x h => ∃ u, x = .sl 1001 u 0 (tidy l).length ∧ h = [(1001, u, ⟨4, rowC (tidy l)⟩)]) ?_ fun x h hh => ?_
  · refine callT_of_body [0, 2, 3, 4, 5, 13, 41, 42, 45, 48] [1001] Try.func30 rfl (by decide) (by kernel_rfl) rfl ?_
    simp
    refine ⟨Nat × Nat, fun x => x.1 ≤ 8 ∧ x.1 ≤ l.length, fun x => ⟨[(0, .isl (rowC l) l.length), (3, .sl 1001 x.2 0 (tidy (l.take x.1)).length), (4, .v (.int .i64 x.1))], [(1001, x.2, ⟨4, rowC (tidy (l.take x.1))⟩)]⟩, fun x => 8 - x.1, ?_, ?_⟩
    · refine SLx.nil 3 1001 4 (by decide) (by simp) fun u => SLx.fin _ ⟨(0, u), by simp, rfl⟩ (by simp [tidy]) (by simp [tidy])
    rintro ⟨k, u⟩ ⟨hk, hkl⟩
    simp only at hk hkl ⊢
    by_cases g : k < l.length
    · by_cases g2 : k < 8
      · have hat := rowC_at g
        have hsn : tidy (l.take (k + 1)) = tidy (l.take k) ++ [tidy1 l[k]] := by
          unfold tidy
          rw [List.take_take, List.take_take, Nat.min_eq_right (by omega), Nat.min_eq_right (by omega), List.take_succ_eq_append_getElem g, List.map_append]
          rfl
        have hfl := tidy_length (l.take k)
        generalize tidy (l.take k) = F at hsn hfl ⊢
        have htk : List.take (F.length * 4) (rowC F) = rowC F := List.take_of_length_le (by simp)
        have hF : F.length ≤ 8 := by omega
        have g2' : (k : Int) < 8 := by omega
        have e1 : IntKind.i64.wrap ((k : Int) + 1) = ((k + 1 : Nat) : Int) := by rw [i64_id (by omega) (by omega)]; rfl
        have b1 := i64_and255 l[k].k
        have b2 := i64_and63 l[k].u
        have b3 := i64_and127 l[k].a
        have b4 := i64_and127 l[k].b
        have m0 : (l[k].k % 256).tmod 4 = (l[k].k % 256) % 4 := Int.tmod_eq_emod_of_nonneg (by omega)
        have m1 : IntKind.i64.wrap (l[k].k % 4) = l[k].k % 4 := i64_id (by omega) (by omega)
        have m2 : IntKind.i64.wrap (1 + l[k].k % 4) = tk l[k] := i64_id (by omega) (by omega)
        have m3 : IntKind.i64.wrap (1 + l[k].u % 64) = 1 + l[k].u % 64 := i64_id (by omega) (by omega)
        have m4 : IntKind.i64.wrap (1 + l[k].a % 128) = 1 + l[k].a % 128 := i64_id (by omega) (by omega)
        have hr : 1 ≤ tk l[k] ∧ tk l[k] ≤ 4 := by unfold tk; omega
        have hcs : tk l[k] = 1 ∨ tk l[k] = 2 ∨ tk l[k] = 3 ∨ tk l[k] = 4 := by omega
        rcases hcs with c1 | c1 | c1 | c1
        · have ht : tidy1 l[k] = ⟨1, 1 + l[k].u % 64, 1 + l[k].a % 128, l[k].b % 128⟩ := by simp [tidy1, c1]
          simp [g, g2, g2', hat, i64c, b1, b2, b3, b4, m0, m1, m2, m3, m4, c1]
          refine fun v5 v54 => ⟨by omega, by omega, fun u2 => ?_⟩
          exact SLx.again (k + 1, u2) ⟨by simp only; omega, by simp only; omega⟩ (by simp only; omega) (by simp [e1, hsn]) (by simp [hsn, htk, ht, Ord.cells, i64c])
        · have ht : tidy1 l[k] = ⟨2, 1 + l[k].u % 64, 1 + l[k].a % 128, 0⟩ := by simp [tidy1, c1]
          simp [g, g2, g2', hat, i64c, b1, b2, b3, b4, m0, m1, m2, m3, m4, c1]
          refine fun v5 v54 => ⟨by omega, by omega, fun u2 => ?_⟩
          exact SLx.again (k + 1, u2) ⟨by simp only; omega, by simp only; omega⟩ (by simp only; omega) (by simp [e1, hsn]) (by simp [hsn, htk, ht, Ord.cells, i64c])
        · have ht : tidy1 l[k] = ⟨3, 0, 1 + l[k].a % 128, l[k].b % 128⟩ := by simp [tidy1, c1]
          simp [g, g2, g2', hat, i64c, b1, b2, b3, b4, m0, m1, m2, m3, m4, c1]
          refine fun v5 v54 => ⟨by omega, by omega, fun u2 => ?_⟩
          exact SLx.again (k + 1, u2) ⟨by simp only; omega, by simp only; omega⟩ (by simp only; omega) (by simp [e1, hsn]) (by simp [hsn, htk, ht, Ord.cells, i64c])
        · have ht : tidy1 l[k] = ⟨4, 1 + l[k].u % 64, 0, 0⟩ := by simp [tidy1, c1]
          simp [g, g2, g2', hat, i64c, b1, b2, b3, b4, m0, m1, m2, m3, m4, c1]
          refine fun v5 v54 => ⟨by omega, by omega, fun u2 => ?_⟩
          exact SLx.again (k + 1, u2) ⟨by simp only; omega, by simp only; omega⟩ (by simp only; omega) (by simp [e1, hsn]) (by simp [hsn, htk, ht, Ord.cells, i64c])
      · have : ¬ (k : Int) < 8 := by omega
        have h8 : tidy (l.take k) = tidy l := by
          unfold tidy
          rw [List.take_take, Nat.min_eq_left (by omega)]
        simp [g, g2, this, h8]
    · have : k = l.length := by omega
      subst this
      simp
  · obtain ⟨u, rfl, rfl⟩ := hh
    refine VLx.frz 1001 rfl (VLx.done ?_)
    have htk : List.take ((tidy l).length * 4) (rowC (tidy l)) = rowC (tidy l) := List.take_of_length_le (by simp)
    simp [htk]

set_option maxHeartbeats 2000000 in
set_option maxRecDepth 100000 in
theorem Told9_T (l : List Ord) (hl : l.length ≤ 1000000) : callT Try.prog 32 [.isl (rowC l) l.length] ⟨[], []⟩ (fun x h => x = .isl (rowC l) l.length ∧ h = []) := by
  refine callT.mono (K := fun x h => ∃ u, x = .sl 6 u 0 l.length ∧ h = [(6, u, ⟨4, rowC l⟩)]) ?_ fun x h hh => ?_
  · refine callT_of_body [0, 2, 3, 5, 7, 8, 9, 10] [6] Try.func32 rfl (by decide) (by kernel_rfl) rfl ?_
    simp
    intro v6
    refine loopT_of (Nat × Nat) (fun x => x.1 ≤ l.length) (fun x => ⟨[(3, .sl 6 x.2 0 x.1), (7, .isl (rowC l) l.length), (8, .v (.int .i64 l.length)), (9, .v (.int .i64 x.1))], [(6, x.2, ⟨4, rowC (l.take x.1)⟩)]⟩) (fun x => l.length - x.1) (0, v6) (by simp) (by simp) (by simp) ?_
    rintro ⟨k, u⟩ hk
    simp only at hk ⊢
    by_cases g : k < l.length
    · have hat := rowC_at g
      have hsn : rowC (l.take (k + 1)) = rowC (l.take k) ++ l[k].cells := by rw [List.take_succ_eq_append_getElem g, rowC_append]; simp
      have htk : List.take (k * 4) (rowC (l.take k)) = rowC (l.take k) := List.take_of_length_le (by simp; omega)
      have hlen : (rowC (l.take k)).length = k * 4 := by simp; omega
      have e1 : IntKind.i64.wrap ((k : Int) + 1) = ((k + 1 : Nat) : Int) := by rw [i64_id (by omega) (by omega)]; rfl
      generalize rowC (l.take k) = F at hsn htk hlen ⊢
      simp [g, hat, i64c]
      refine fun v5 v => ⟨by omega, by omega, by omega, fun u2 => ?_⟩
      have hF : List.drop (k * 4 + 4) F = [] := List.drop_of_length_le (by omega)
      exact SLx.again (k + 1, u2) (by simp only; omega) (by simp only; omega) (by simp [e1]) (by simp [hsn, htk, hF, Ord.cells, i64c])
    · have : k = l.length := by omega
      subst this
      simp
  · obtain ⟨u, rfl, rfl⟩ := hh
    refine VLx.frz 6 rfl (VLx.done ?_)
    have htk : List.take (l.length * 4) (rowC l) = rowC l := List.take_of_length_le (by simp)
    simp [htk]
end Go.Proofs.Ytkggjmoghpmelaa.TL
