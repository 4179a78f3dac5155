/- Out.Int (wire): whole numbers, doubled. -/
import Derived.Test.YtfhckddfmlljfaaOut
import Derived.Lib.Zigzag
namespace Go.Proofs.Ytfhckddfmlljfaa
open Go.RowKit
set_option linter.unusedVariables false
set_option linter.unusedSimpArgs false

def zz (n : Int) : Int := if n < 0 then -2 * n - 1 else 2 * n
def ib (n : Int) : List UInt8 := nb (zz n)
def ibs (ns : List Int) : List UInt8 := ns.flatMap ib
theorem ib_length {n : Int} (h : -9223372036854775808 ≤ n ∧ n ≤ 9223372036854775807) : (ib n).length ≤ 10 := nb_length (by unfold zz; split <;> omega)
theorem ibs_length : ∀ ns : List Int, (∀ n ∈ ns, -9223372036854775808 ≤ n ∧ n ≤ 9223372036854775807) → (ibs ns).length ≤ 10 * ns.length
  | [], _ => by simp [ibs]
  | n :: ns, h => by
    have h1 := ibs_length ns fun x hx => h x (by simp [hx])
    have h2 := ib_length (h n (by simp))
    have e : ibs (n :: ns) = ib n ++ ibs ns := by simp [ibs]
    rw [e, List.length_append, List.length_cons]; omega
theorem zz_is {n : Int} (h0 : -9223372036854775808 ≤ n) (h1 : n ≤ 9223372036854775807) : bits .xor .u64 (IntKind.u64.wrap (IntKind.u64.wrap n * 2)) (IntKind.u64.wrap (n / 9223372036854775808)) = zz n := by
  have e1 : IntKind.u64.wrap (IntKind.u64.wrap n * 2) = (((2 * n) % 18446744073709551616).toNat : Int) := by
    rw [IntKind.wrap_u64, IntKind.wrap_u64]; omega
  unfold zz
  by_cases hn : n < 0
  · have e2 : IntKind.u64.wrap (n / 9223372036854775808) = ((2 ^ 64 - 1 : Nat) : Int) := by
      rw [show n / 9223372036854775808 = -1 from by omega]; decide
    rw [if_pos hn, e1, e2, bits_xor_u64_nat _ _ (by omega) (by decide), Nat.xor_comm, Lib.xor_ones64 _ (by omega)]
    omega
  · have e2 : IntKind.u64.wrap (n / 9223372036854775808) = ((0 : Nat) : Int) := by
      rw [show n / 9223372036854775808 = 0 from by omega]; decide
    rw [if_neg hn, e1, e2, bits_xor_u64_nat _ _ (by omega) (by decide), Nat.xor_zero]
    omega
set_option maxRecDepth 100000 in
theorem int_out (g : Nat) (rb : Option Nat) (l : List UInt8) (A : Option Addr) (c : Nat) (ns : List Int) (w : World) (h : OutAt w g rb l) (hr : Ints w .i64 A ns)
    (hd : ∀ a, A = some a → a.block ≠ g ∧ some a.block ≠ rb) (hc : ns.length ≤ c) (hwf : ∀ x ∈ ns, -9223372036854775808 ≤ x ∧ x ≤ 9223372036854775807) (hb : l.length + 10 * ns.length ≤ 549755813888) :
    Calls Try.prog 69 #[.pointer (some ⟨g, 0, none⟩), .slice A ns.length c] w fun x w' => x = .returned (.pointer (some ⟨g, 0, none⟩)) ∧ OutTo w w' g rb (l ++ ibs ns) := by
  have HH := hid h; have HR := hid hr; have HD := hid hd; have HW := hid hwf
  clear h hr hd hwf
  go_enter Try.func69, Try.ntmps69
  go_wp2
  go_loopw [6, 9] (fun _ v9 wr => ∃ i : Nat, i ≤ ns.length ∧ v9 = .int .i64 i ∧ OutTo w wr g rb (l ++ ibs (ns.take i))) (fun _ v9 _ => ns.length - (intOf v9).toNat)
  case atStart => exact ⟨0, Nat.zero_le _, rfl, by simpa [ibs] using HH.out.to⟩
  case round =>
    obtain ⟨i, hi, rfl, hot⟩ := hrel
    have HOT := hid hot; clear hot
    by_cases hlt : i < ns.length
    · obtain ⟨b, off, rfl, hcell⟩ : ∃ b off, A = some ⟨b, off, none⟩ ∧ ∀ j x, ns[j]? = some x → w.cell? ⟨b, off + j, none⟩ = some (.int .i64 x) := by
        rcases HR.out with h | h
        · subst h; simp at hlt
        · exact h
      obtain ⟨n0, hn0⟩ : ∃ n0, ns[i]? = some n0 := ⟨_, List.getElem?_eq_getElem hlt⟩
      have hn0m := HW.out n0 (List.mem_of_getElem? hn0)
      have hlen := ibs_length (ns.take i) fun x hx => HW.out x (List.mem_of_mem_take hx)
      have hc0 : wr.cell? ⟨b, off + i, none⟩ = some (.int .i64 n0) := by
        obtain ⟨_, _, _, k⟩ := HOT.out
        exact k.cell (hcell i n0 hn0) (by have := HD.out _ rfl; simp only at this ⊢; exact fun x => x.elim this.1 this.2)
      have htk : ibs (ns.take (i + 1)) = ibs (ns.take i) ++ ib n0 := by
        rw [List.take_add_one, hn0]; simp [ibs]
      rw [List.length_take, Nat.min_eq_left hi] at hlen
      have HTK := hid htk; clear htk hn0 hcell
      generalize ibs (ns.take i) = done at *
      obtain ⟨rb1, hot, hrb, hk⟩ := HOT.out
      have HOA := hid hot; have HRB := hid hrb; have HKP := hid hk
      clear hot hrb hk
      have HZ := hid (zz_is hn0m.1 hn0m.2)
      have hz0 : 0 ≤ zz n0 ∧ zz n0 < 18446744073709551616 := by unfold zz; split <;> omega
      go_wp2_with (go_at_call 67; refine (num_out g rb1 (l ++ done) _ 1 [bits .xor .u64 (IntKind.u64.wrap (IntKind.u64.wrap n0 * 2)) (IntKind.u64.wrap (n0 / 9223372036854775808))] _ (HOA.out.alloc _) (Ints.lit wr .u64 [bits .xor .u64 (IntKind.u64.wrap (IntKind.u64.wrap n0 * 2)) (IntKind.u64.wrap (n0 / 9223372036854775808))] _) HOA.out.apart (by simp) (by rw [HZ.out]; simpa using hz0) (by simp only [List.length_append, List.length_singleton]; omega)).mono ?_; rintro x w1 ⟨rfl, hot1⟩; rw [HZ.out] at hot1; have HO1 := hid hot1; clear hot1)
      go_roundw
      case rel => exact ⟨i + 1, by omega, by go_num, by rw [HTK.out, show ib n0 = nbs [zz n0] from by simp [ib, nbs], ← List.append_assoc]; exact OutTo.then HRB.out HKP.out HO1.out.alloc⟩
      case measure => simp [intOf]; omega
    · go_wp2
      go_ret
      have hi' : i = ns.length := by omega
      exact ⟨rfl, by have := HOT.out; rwa [hi', List.take_length] at this⟩
end Go.Proofs.Ytfhckddfmlljfaa
