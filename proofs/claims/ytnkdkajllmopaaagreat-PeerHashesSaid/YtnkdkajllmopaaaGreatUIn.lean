/- The reader of bytes (wire.In): what each of its calls takes. -/
import Derived.Test.YtnkdkajllmopaaaGreatTy
import Derived.Test.YtnkdkajllmopaaaGreatTbits
/- In.Int. -/
/- A text cut. -/
namespace Go.Proofs.YtnkdkajllmopaaaGreat.TL
open Go
set_option linter.unusedVariables false
set_option linter.unusedSimpArgs false

/-- A reader: the bytes left, the error. -/
structure In where
  l : List UInt8
  e : Int

abbrev inB (i : In) : Blk := ⟨0, [.v (.string (bs i.l)), .v (.int .i64 i.e)]⟩

def In.fail (i : In) (x : Int) : In := if i.e = 0 ∧ x ≠ 0 then ⟨[], x⟩ else i
def In.raw (i : In) (n : Int) : In × List UInt8 :=
  if i.e ≠ 0 ∨ n ≤ 0 then (i, []) else if (i.l.length : Int) < n then (⟨[], 1⟩, []) else (⟨i.l.drop n.toNat, i.e⟩, i.l.take n.toNat)
def numL : List UInt8 → Nat → Nat → In × Nat
  | [], _, _ => (⟨[], 1⟩, 0)
  | c :: l, k, a => if c.toNat = 0 ∧ 0 < k ∨ k = 9 ∧ 1 < c.toNat then (⟨[], 2⟩, 0) else if c.toNat < 128 then (⟨l, 0⟩, a + c.toNat % 128 * 2 ^ (7 * k)) else numL l (k + 1) (a + c.toNat % 128 * 2 ^ (7 * k))
def In.num (i : In) : In × Nat := if i.e ≠ 0 then (i, 0) else numL i.l 0 0
def In.count (i : In) (most : Int) : In × Int := if max most 0 < (i.num.2 : Int) then (i.num.1.fail 3, 0) else (i.num.1, i.num.2)
def In.int (i : In) : In × Int := (i.num.1, unzig i.num.2)
def In.str (i : In) (most : Int) : In × List UInt8 := (i.count most).1.raw (i.count most).2
def In.fin (i : In) : In := if i.l ≠ [] then i.fail 2 else i

theorem bs_nil : bs [] = { data := #[] } := rfl

set_option maxRecDepth 100000 in
theorem Fail_T (v : Nat) (i : In) (x : Int) : callT Tryz.prog 105 [.at 1000 v 0, .v (.int .i64 x)] ⟨[], [(1000, v, inB i)]⟩ (fun r h => r = .tup [] ∧ h = [(1000, v, inB (i.fail x))]) := by
  refine callT_of_body [0, 1, 12] [1000] Tryz.func105 rfl (by decide) (by kernel_rfl) rfl ?_
  simp
  by_cases h1 : i.e = 0 <;> by_cases h2 : x = 0 <;> simp [In.fail, h1, h2, bs_nil]

set_option maxRecDepth 100000 in
theorem Raw_T (v : Nat) (i : In) (n : Int) : callT Tryz.prog 106 [.at 1000 v 0, .v (.int .i64 n)] ⟨[], [(1000, v, inB i)]⟩
    (fun r h => r = .v (.string (bs (i.raw n).2)) ∧ h = [(1000, v, inB (i.raw n).1)]) := by
  refine callT_of_body [0, 1, 4, 5, 6, 16] [1000] Tryz.func106 rfl (by decide) (by kernel_rfl) rfl ?_
  simp
  refine ⟨fun h => by simp [In.raw, h, bs_nil], fun h1 h2 => ⟨fun h3 => ?_, fun h3 => ?_⟩⟩
  · refine callT_eq [(1000, 1000)] (Fail_T v i 1) ?_
    simp [In.raw, In.fail, h1, h3, bs_nil, Int.not_le.2 h2]
  · have e1 : ((i.l.length : Int) - n).toNat = i.l.length - n.toNat := by omega
    have e2 : List.take (i.l.length - n.toNat) (List.drop n.toNat i.l) = List.drop n.toNat i.l := List.take_of_length_le (by simp)
    simp [In.raw, h1, h2, h3, Int.not_le.2 h2, Int.not_lt.2 h3, e1, e2]
    omega

theorem numL_err : ∀ (l : List UInt8) (k a : Nat), (numL l k a).1.e = 0 ∨ (numL l k a).1.l = [] := by
  intro l
  induction l with
  | nil => intro k a; exact .inr rfl
  | cons c l ih =>
    intro k a
    simp only [numL]
    split
    · exact .inr rfl
    · split
      · exact .inl rfl
      · exact ih _ _

theorem raw1 (b : UInt8) (l : List UInt8) : In.raw ⟨b :: l, 0⟩ 1 = (⟨l, 0⟩, [b]) := by
  have : ¬ ((l.length : Int) + 1 < 1) := by omega
  simp [In.raw, this]
theorem raw1_nil : In.raw ⟨[], 0⟩ 1 = (⟨[], 1⟩, []) := by simp [In.raw]

set_option maxRecDepth 100000 in
theorem Num_T (v : Nat) (i : In) : callT Tryz.prog 104 [.at 1000 v 0] ⟨[], [(1000, v, inB i)]⟩
    (fun r h => r = .v (.int .u64 i.num.2) ∧ h = [(1000, v, inB i.num.1)]) := by
  refine callT_of_body [0, 2, 3, 4, 5, 6, 15, 31, 42] [1000] Tryz.func104 rfl (by decide) (by kernel_rfl) rfl ?_
  simp
  by_cases he : i.e = 0
  · refine loopT_of (List UInt8 × Nat × Nat) (fun x => x.2.1 ≤ 9 ∧ x.2.2 < 2 ^ (7 * x.2.1) ∧ i.num = numL x.1 x.2.1 x.2.2) (fun x => ⟨[(0, .at 1000 v 0), (3, .v (.int .u64 x.2.2)), (4, .v (.int .i64 (7 * x.2.1 : Nat)))], [(1000, v, inB ⟨x.1, 0⟩)]⟩) (fun x => 9 - x.2.1) (i.l, 0, 0) (by simp [In.num, he]) (by simp) (by simp [he]) ?_
    rintro ⟨l, k, a⟩ ⟨hk, ha, hi⟩
    simp only at hk ha hi ⊢
    simp
    refine callT_eq [(1000, 1000)] (Raw_T v ⟨l, 0⟩ 1) ?_
    cases l with
    | nil => simp [raw1_nil, hi, numL, bs_nil]
    | cons b l =>
      simp [raw1]
      refine ⟨fun hb => ?_, fun hb1 hb2 => ?_⟩
      · refine callT_eq [(1000, 1000)] (Fail_T v ⟨l, 0⟩ 2) ?_
        have hb' : b.toNat = 0 ∧ 0 < k ∨ k = 9 ∧ 1 < b.toNat := by omega
        simp [In.fail, hi, numL, hb', bs_nil]
      · have hbn : b.toNat < 256 := b.toNat_lt
        have h7 : (7 * (k : Int)).toNat = 7 * k := by omega
        have hp : 2 ^ (7 * k) ≤ 2 ^ 63 := Nat.pow_le_pow_right (by decide) (by omega)
        have hsm : b.toNat % 128 * 2 ^ (7 * k) < 2 ^ 64 := by
          by_cases h9 : k = 9
          · have := hb2 (by omega)
            subst h9
            simp only [Nat.reduceMul]
            omega
          · have : 2 ^ (7 * k) ≤ 2 ^ 56 := Nat.pow_le_pow_right (by decide) (by omega)
            have := Nat.mul_le_mul (show b.toNat % 128 ≤ 127 by omega) this
            omega
        have hsum : a + b.toNat % 128 * 2 ^ (7 * k) < 2 ^ 64 := by
          by_cases h9 : k = 9
          · have := hb2 (by omega)
            subst h9
            simp only [Nat.reduceMul] at ha ⊢
            omega
          · have h56 : 2 ^ (7 * k) ≤ 2 ^ 56 := Nat.pow_le_pow_right (by decide) (by omega)
            have := Nat.mul_le_mul (show b.toNat % 128 ≤ 127 by omega) h56
            omega
        have hval : bits BinOp.or IntKind.u64 (a : Int) (IntKind.u64.wrap (IntKind.u64.wrap (bits BinOp.and IntKind.u8 (b.toNat : Int) 127) * 2 ^ min (7 * (k : Int)).toNat IntKind.u64.bits)) = ((a + b.toNat % 128 * 2 ^ (7 * k) : Nat) : Int) := by
          have hm : min (7 * k) IntKind.u64.bits = 7 * k := by simp only [IntKind.bits]; omega
          rw [u8_and127, h7, hm, u64_id (n := ((b.toNat % 128 : Nat) : Int)) (by omega) (by omega)]
          have e1 : ((b.toNat % 128 : Nat) : Int) * 2 ^ (7 * k) = ((b.toNat % 128 * 2 ^ (7 * k) : Nat) : Int) := by simp
          rw [e1, u64_id (by omega) (by omega), u64_or _ _ _ ha hsum]
        have hok : ¬ (b.toNat = 0 ∧ 0 < k ∨ k = 9 ∧ 1 < b.toNat) := by omega
        rw [hval]
        refine ⟨by omega, fun h1 => ?_, fun h1 => ?_⟩
        · have h1' : b.toNat < 128 := by omega
          simp [hi, numL, hok, h1']
        · have h1' : ¬ b.toNat < 128 := by omega
          have hk9 : k ≠ 9 := fun h => by have := hb2 (by omega); omega
          refine SLx.again (l, k + 1, a + b.toNat % 128 * 2 ^ (7 * k)) ⟨by simp only; omega, ?_, by rw [hi]; simp [numL, hok, h1']⟩ (by simp only; omega) ?_ (by simp)
          · have : 2 ^ (7 * (k + 1)) = 2 ^ (7 * k) * 128 := by rw [show 7 * (k + 1) = 7 * k + 7 by omega, Nat.pow_add]
            simp only
            rw [this]
            have := Nat.mul_le_mul_right (2 ^ (7 * k)) (show b.toNat % 128 ≤ 127 by omega)
            omega
          · have e2 : IntKind.i64.wrap (7 * (k : Int) + 7) = 7 * ((k : Int) + 1) := by rw [i64_id (by omega) (by omega)]; omega
            simp [e2]
  · refine loopT_of Unit (fun _ => True) (fun x => ⟨[(0, .at 1000 v 0), (3, .v (.int .u64 0)), (4, .v (.int .i64 0))], [(1000, v, inB i)]⟩) (fun _ => 0) () trivial (by simp) (by simp) fun x _ => ?_
    simp
    refine callT_eq [(1000, 1000)] (Raw_T v i 1) ?_
    simp [In.raw, In.num, he, bs_nil]

set_option maxRecDepth 100000 in
theorem Err_T (v : Nat) (i : In) : callT Tryz.prog 103 [.at 1000 v 0] ⟨[], [(1000, v, inB i)]⟩ (fun r h => r = .v (.int .i64 i.e) ∧ h = [(1000, v, inB i)]) := by
  refine callT_of_body [0, 2] [1000] Tryz.func103 rfl (by decide) (by kernel_rfl) rfl ?_
  simp

set_option maxRecDepth 100000 in
theorem End_T (v : Nat) (i : In) : callT Tryz.prog 92 [.at 1000 v 0] ⟨[], [(1000, v, inB i)]⟩ (fun r h => r = .v (.int .i64 i.fin.e) ∧ h = [(1000, v, inB i.fin)]) := by
  refine callT_of_body [0, 2, 7] [1000] Tryz.func92 rfl (by decide) (by kernel_rfl) rfl ?_
  simp
  by_cases h : i.l = []
  · simp [h, In.fin]
  · simp [h]
    refine callT_eq [(1000, 1000)] (Fail_T v i 2) ?_
    simp [In.fin, h]

theorem numL_lt : ∀ (l : List UInt8) (k a : Nat), k ≤ 9 → a < 2 ^ (7 * k) → (numL l k a).2 < 2 ^ 64 := by
  intro l
  induction l with
  | nil => intro k a _ _; simp [numL]
  | cons b l ih =>
    intro k a hk ha
    have hbn : b.toNat < 256 := b.toNat_lt
    simp only [numL]
    split
    · simp
    · rename_i hok
      split
      · rename_i h1
        by_cases h9 : k = 9
        · subst h9
          simp only [Nat.reduceMul] at ha ⊢
          have : b.toNat ≤ 1 := by omega
          omega
        · have h56 : 2 ^ (7 * k) ≤ 2 ^ 56 := Nat.pow_le_pow_right (by decide) (by omega)
          have := Nat.mul_le_mul (show b.toNat % 128 ≤ 127 by omega) h56
          simp only
          omega
      · rename_i h1
        have hk9 : k ≠ 9 := by omega
        refine ih _ _ (by omega) ?_
        have : 2 ^ (7 * (k + 1)) = 2 ^ (7 * k) * 128 := by rw [show 7 * (k + 1) = 7 * k + 7 by omega, Nat.pow_add]
        rw [this]
        have := Nat.mul_le_mul_right (2 ^ (7 * k)) (show b.toNat % 128 ≤ 127 by omega)
        omega
theorem In.num_lt (i : In) : i.num.2 < 2 ^ 64 := by
  unfold In.num
  split
  · simp
  · exact numL_lt _ _ _ (by omega) (by simp)

set_option maxRecDepth 100000 in
theorem Count_T (v : Nat) (i : In) (m : Int) (hm : m ≤ 9223372036854775807) : callT Tryz.prog 90 [.at 1000 v 0, .v (.int .i64 m)] ⟨[], [(1000, v, inB i)]⟩
    (fun r h => r = .v (.int .i64 (i.count m).2) ∧ h = [(1000, v, inB (i.count m).1)]) := by
  refine callT_of_body [0, 1, 4, 5, 12] [1000] Tryz.func90 rfl (by decide) (by kernel_rfl) rfl ?_
  simp
  refine callT_eq [(1000, 1000)] (Num_T v i) ?_
  have e1 : IntKind.u64.wrap (max m 0) = max m 0 := u64_id (by omega) (by omega)
  simp [e1]
  refine ⟨fun h => ?_, fun h => ?_⟩
  · refine callT_eq [(1000, 1000)] (Fail_T v i.num.1 3) ?_
    simp [In.count, h]
  · have h' : ¬ (max m 0 < (i.num.2 : Int)) := by omega
    simp [In.count, h']
    exact i64_id (by omega) (by omega)

set_option maxRecDepth 100000 in
theorem Open_T (l : List UInt8) : callT Tryz.prog 88 [.v (.string (bs l))] ⟨[], []⟩ (fun r h => ∃ v, r = .at 5 v 0 ∧ h = [(5, v, inB ⟨l, 0⟩)]) := by
  refine callT_of_body [0, 2] [5] Tryz.func88 rfl (by decide) (by kernel_rfl) rfl ?_
  simp
end Go.Proofs.YtnkdkajllmopaaaGreat.TL

namespace Go.Proofs.YtnkdkajllmopaaaGreat.TL
open Go
set_option linter.unusedVariables false
set_option linter.unusedSimpArgs false

set_option maxRecDepth 100000 in
theorem Int_T (v : Nat) (i : In) : callT Tryz.prog 120 [.at 1000 v 0] ⟨[], [(1000, v, inB i)]⟩
    (fun r h => r = .v (.int .i64 i.int.2) ∧ h = [(1000, v, inB i.int.1)]) := by
  refine callT_of_body [0, 2, 3] [1000] Tryz.func120 rfl (by decide) (by kernel_rfl) rfl ?_
  simp
  refine callT_eq [(1000, 1000)] (Num_T v i) ?_
  have := unzig_bits i.num.2 i.num_lt
  simp [In.int] at this ⊢
  exact this
end Go.Proofs.YtnkdkajllmopaaaGreat.TL

namespace Go.Proofs.YtnkdkajllmopaaaGreat.TL
open Go
set_option linter.unusedVariables false
set_option linter.unusedSimpArgs false

end Go.Proofs.YtnkdkajllmopaaaGreat.TL

