/- Who joins and leaves again: the plain law on the printed functions of the roster. -/
import Derived.Test.YtekmhdiajjfgfaaQRosterBackx
import Derived.Laws.BitsAllLaws
namespace Go.Proofs.Ytekmhdiajjfgfaa.QRosterBack
open Go.RowKit Go.Proofs.YtekmhdiajjfgfaaW.PrintWords Go.Proofs.YtekmhdiajjfgfaaW.PrintLast Go.Proofs.YtekmhdiajjfgfaaW.PrintMore
set_option linter.unusedVariables false
set_option linter.unusedSimpArgs false

theorem two_lt {p : Nat} (hp : p < 32) : 2 ^ p < 4294967296 := by
  have : (2 : Nat) ^ p < 2 ^ 32 := Nat.pow_lt_pow_right (by decide) hp
  simpa using this
theorem shl_one {p : Nat} (hp : p < 32) : shl .u32 1 (p : Int) = ((2 ^ p : Nat) : Int) := by
  unfold shl
  have h := two_lt hp
  rw [Int.toNat_natCast, Nat.min_eq_left (by simp [IntKind.bits]; omega), Int.one_mul, IntKind.wrap_u32]
  have e : ((2 : Int) ^ p) = ((2 ^ p : Nat) : Int) := by simp
  rw [e]; exact Int.emod_eq_of_lt (Int.natCast_nonneg _) (Int.ofNat_lt.2 h)
theorem shr_nat {m p : Nat} (hp : p < 32) : shr .u32 (m : Int) (p : Int) = ((m / 2 ^ p : Nat) : Int) := by
  unfold shr
  rw [Int.toNat_natCast, Nat.min_eq_left (by simp [IntKind.bits]; omega)]
  simp
/-- Is bit p there? -/
theorem bit_is {m p : Nat} (hm : m < 4294967296) (hp : p < 32) : (Go.bits .and .u32 (shr .u32 (m : Int) (p : Int)) 1 == 1) = m.testBit p := by
  rw [shr_nat hp, show (1 : Int) = ((1 : Nat) : Int) from rfl, u32_and_nat _ _ (by have := Nat.div_le_self m (2 ^ p); omega) (by decide)]
  rw [Nat.and_one_is_mod, Nat.testBit_eq_decide_div_mod_eq]
  rcases Nat.mod_two_eq_zero_or_one (m / 2 ^ p) with h | h <;> rw [h] <;> decide
theorem or_is {m p : Nat} (hm : m < 4294967296) (hp : p < 32) : Go.bits .or .u32 (m : Int) (shl .u32 1 (p : Int)) = ((m ||| 2 ^ p : Nat) : Int) := by
  rw [shl_one hp, u32_or_nat _ _ hm (two_lt hp)]
theorem xor_is {m p : Nat} (hm : m < 4294967296) (hp : p < 32) : Go.bits .xor .u32 (m : Int) (shl .u32 1 (p : Int)) = ((m ^^^ 2 ^ p : Nat) : Int) := by
  rw [shl_one hp, u32_xor_nat _ _ hm (two_lt hp)]
theorem or_lt {m p : Nat} (hm : m < 4294967296) (hp : p < 32) : m ||| 2 ^ p < 4294967296 := by
  have := Nat.or_lt_two_pow (n := 32) (x := m) (y := 2 ^ p) (by simpa using hm) (by simpa using two_lt hp)
  simpa using this
theorem xor_lt {m p : Nat} (hm : m < 4294967296) (hp : p < 32) : m ^^^ 2 ^ p < 4294967296 := by
  have := Nat.xor_lt_two_pow (n := 32) (x := m) (y := 2 ^ p) (by simpa using hm) (by simpa using two_lt hp)
  simpa using this
theorem wrap_up {i : Int} (h0 : 0 ≤ i) (h : i < 9223372036854775807) : wrap64 (i + 1) = i + 1 := by unfold wrap64; omega

theorem of_l0 (l : List Int) (hl : l.length < 9223372036854775807) : ∀ (d k : Nat) (i : Int) (m : Nat), 0 ≤ i → i ≤ l.length → (l.length : Int) - i = d → d < k → m < 4294967296 →
    ∃ m' : Nat, m' < 4294967296 ∧ roster_Of.l0 k l l.length i m 0 = some ((m' : Int), 0)
  | 0, k, i, m, h0, h1, hd, hk, hm => by
    obtain ⟨k, rfl⟩ : ∃ q, k = q + 1 := ⟨k - 1, by omega⟩
    exact ⟨m, hm, by simp only [roster_Of.l0]; rw [if_neg (by omega)]⟩
  | d + 1, k, i, m, h0, h1, hd, hk, hm => by
    obtain ⟨k, rfl⟩ : ∃ q, k = q + 1 := ⟨k - 1, by omega⟩
    have hlt : i < (l.length : Int) := by omega
    have hw := wrap_up h0 (by omega)
    have ih := fun m hm => of_l0 l hl d k (i + 1) m (by omega) (by omega) (by omega) (by omega) hm
    simp only [roster_Of.l0]
    rw [if_pos hlt, if_pos h0, if_pos hlt, hw]
    by_cases hp : rd l i ≥ 0
    · by_cases hq : rd l i < 32
      · obtain ⟨p, hp'⟩ := Int.eq_ofNat_of_zero_le hp
        rw [if_pos hp, if_pos hq, if_pos hp, hp', or_is hm (by omega)]
        exact ih _ (or_lt hm (by omega))
      · rw [if_pos hp, if_neg hq]; exact ih m hm
    · rw [if_neg hp]; exact ih m hm
theorem of_some (l : List Int) (hl : l.length < 9223372036854775807) : ∃ (k m : Nat), m < 4294967296 ∧ roster_Of.f k l = some ((m : Int), 0) := by
  obtain ⟨m, hm, h⟩ := of_l0 l hl l.length (l.length + 1) 0 0 (by omega) (by omega) (by omega) (by omega) (by decide)
  exact ⟨_, m, hm, h⟩
theorem has_is {m p : Nat} (e : Int) (hm : m < 4294967296) (hp : p < 32) : roster_Roster_Has.f m e p = some (m.testBit p) := by
  unfold roster_Roster_Has.f
  rw [if_pos (by omega), if_pos (by omega), if_pos (by omega), bit_is hm hp]

/-- May a plain change be? -/
theorem check_join {m p : Nat} (e : Int) (hm : m < 4294967296) (hp : p < 32) (h0 : 0 < p) (k : Nat) : roster_Roster_Check.f (k + 4) m e 1 p [] = some (if m.testBit p then 10 else 0) := by
  have hp0 : ¬ ((p : Int) = 0) := by omega
  simp only [roster_Roster_Check.f, roster_Roster_Check.j0, roster_Roster_Check.j1, roster_Roster_Check.j2, roster_Roster_Check.j3, has_is e hm hp, List.length_nil, Option.bind_some]
  rw [if_neg (by decide), if_neg (by decide), if_neg (by omega), if_neg (by omega), if_neg hp0, if_neg (by decide), if_neg (by decide)]
  cases m.testBit p <;> rfl
theorem check_leave {m p : Nat} (e : Int) (hm : m < 4294967296) (hp : p < 32) (h0 : 0 < p) (k : Nat) : roster_Roster_Check.f (k + 4) m e 2 p [] = some (if m.testBit p then 0 else 13) := by
  have hp0 : ¬ ((p : Int) = 0) := by omega
  simp only [roster_Roster_Check.f, roster_Roster_Check.j0, roster_Roster_Check.j1, roster_Roster_Check.j2, roster_Roster_Check.j3, has_is e hm hp, List.length_nil, Option.bind_some]
  rw [if_neg (by decide), if_neg (by decide), if_neg (by omega), if_neg (by omega), if_neg hp0, if_neg (by decide), if_neg (by decide)]
  cases m.testBit p <;> rfl
theorem bit_flip (m p : Nat) : (m ^^^ 2 ^ p).testBit p = !m.testBit p := by
  rw [Nat.testBit_xor, Nat.testBit_two_pow_self]; simp
theorem flip_flip (m p : Nat) : m ^^^ 2 ^ p ^^^ 2 ^ p = m := by rw [Nat.xor_assoc, Nat.xor_self, Nat.xor_zero]

/-- The two changes of the law. -/
def chA (b : Bool) (p : Int) : S46 := if b then ⟨2, p, []⟩ else ⟨1, p, []⟩
theorem with_ab {m p : Nat} (hm : m < 4294967296) (hp : p < 32) (h0 : 0 < p) : roster_Roster_With.f 7 m 0 [chA (m.testBit p) p, chA (!m.testBit p) p] = some ((m : Int), 2, 0) := by
  have hx := xor_lt hm hp
  have r0 : rd_T46 [chA (m.testBit p) p, chA (!m.testBit p) p] 0 = chA (m.testBit p) p := rfl
  have r1 : rd_T46 [chA (m.testBit p) p, chA (!m.testBit p) p] 1 = chA (!m.testBit p) p := rfl
  have w0 : wrap64 (0 + 1) = 1 := wrap_up (i := 0) (by decide) (by decide)
  have w1 : wrap64 (1 + 1) = 2 := wrap_up (i := 1) (by decide) (by decide)
  have c1 := check_join 0 hm hp h0 2
  have c2 := check_leave 0 hm hp h0 2
  have c3 := check_join 1 hx hp h0 1
  have c4 := check_leave 1 hx hp h0 1
  rw [bit_flip] at c3 c4
  have x1 := xor_is hm hp
  have x2 := xor_is hx hp
  rw [flip_flip] at x2
  simp only [roster_Roster_With.f, roster_Roster_With.l0, List.length_cons, List.length_nil, r0]
  rw [if_pos (by decide), if_pos (by decide), if_pos (by decide)]
  cases hb : m.testBit p
  · simp only [hb, chA, Bool.not_false, if_true, Bool.false_eq_true, if_false] at r0 r1 c1 c2 c3 c4 ⊢
    rw [c1]; simp only [Option.bind_some]
    rw [if_pos trivial, if_pos (by omega), x1, w0]
    rw [if_pos (by decide), if_pos (by decide), if_pos (by decide), r1]
    rw [c4]; simp only [Option.bind_some]
    rw [if_pos trivial, if_pos (by omega), x2, w1]
    rw [if_neg (by decide)]
  · simp only [hb, chA, Bool.not_true, if_true, Bool.false_eq_true, if_false] at r0 r1 c1 c2 c3 c4 ⊢
    rw [c2]; simp only [Option.bind_some]
    rw [if_pos trivial, if_pos (by omega), x1, w0]
    rw [if_pos (by decide), if_pos (by decide), if_pos (by decide), r1]
    rw [c3]; simp only [Option.bind_some]
    rw [if_pos trivial, if_pos (by omega), x2, w1]
    rw [if_neg (by decide)]
theorem with_aa {m p : Nat} (hm : m < 4294967296) (hp : p < 32) (h0 : 0 < p) : roster_Roster_With.f 7 m 0 [chA (m.testBit p) p, chA (m.testBit p) p] = some ((m : Int), 0, if m.testBit p then 13 else 10) := by
  have hx := xor_lt hm hp
  have r0 : rd_T46 [chA (m.testBit p) p, chA (m.testBit p) p] 0 = chA (m.testBit p) p := rfl
  have r1 : rd_T46 [chA (m.testBit p) p, chA (m.testBit p) p] 1 = chA (m.testBit p) p := rfl
  have w0 : wrap64 (0 + 1) = 1 := wrap_up (i := 0) (by decide) (by decide)
  have c1 := check_join 0 hm hp h0 2
  have c2 := check_leave 0 hm hp h0 2
  have c3 := check_join 1 hx hp h0 1
  have c4 := check_leave 1 hx hp h0 1
  rw [bit_flip] at c3 c4
  have x1 := xor_is hm hp
  simp only [roster_Roster_With.f, roster_Roster_With.l0, List.length_cons, List.length_nil, r0]
  rw [if_pos (by decide), if_pos (by decide), if_pos (by decide)]
  cases hb : m.testBit p
  · simp only [hb, chA, Bool.not_false, if_true, Bool.false_eq_true, if_false] at r0 r1 c1 c2 c3 c4 ⊢
    rw [c1]; simp only [Option.bind_some]
    rw [if_pos trivial, if_pos (by omega), x1, w0]
    rw [if_pos (by decide), if_pos (by decide), if_pos (by decide), r1]
    rw [c3]; simp only [Option.bind_some]
    rw [if_neg (by decide)]
  · simp only [hb, chA, Bool.not_true, if_true, Bool.false_eq_true, if_false] at r0 r1 c1 c2 c3 c4 ⊢
    rw [c2]; simp only [Option.bind_some]
    rw [if_pos trivial, if_pos (by omega), x1, w0]
    rw [if_pos (by decide), if_pos (by decide), if_pos (by decide), r1]
    rw [c4]; simp only [Option.bind_some]
    rw [if_neg (by decide)]

theorem all_l0 {m : Nat} (hm : m < 4294967296) : ∀ (d k : Nat) (acc : List Int) (i : Nat), i ≤ 32 → 32 - i = d → d < k → acc.length ≤ i →
    ∃ r : List Int, r.length ≤ 32 ∧ ∀ e, roster_Roster_All.l0 k acc i m e = some r
  | 0, k, acc, i, h1, hd, hk, ha => by
    obtain ⟨k, rfl⟩ : ∃ q, k = q + 1 := ⟨k - 1, by omega⟩
    exact ⟨acc, by omega, fun e => by simp only [roster_Roster_All.l0]; rw [if_neg (by omega)]⟩
  | d + 1, k, acc, i, h1, hd, hk, ha => by
    obtain ⟨k, rfl⟩ : ∃ q, k = q + 1 := ⟨k - 1, by omega⟩
    have hw : wrap64 ((i : Int) + 1) = ((i + 1 : Nat) : Int) := by rw [wrap_up (by omega) (by omega)]; omega
    cases hb : m.testBit i
    · obtain ⟨r, hr, h⟩ := all_l0 hm d k acc (i + 1) (by omega) (by omega) (by omega) (by omega)
      refine ⟨r, hr, fun e => ?_⟩
      simp only [roster_Roster_All.l0]
      rw [if_pos (by omega), has_is e hm (by omega), hb]; simp only [Option.bind_some, Bool.false_eq_true, if_false]
      rw [hw]; exact h e
    · obtain ⟨r, hr, h⟩ := all_l0 hm d k (acc ++ [(i : Int)]) (i + 1) (by omega) (by omega) (by omega) (by simp; omega)
      refine ⟨r, hr, fun e => ?_⟩
      simp only [roster_Roster_All.l0]
      rw [if_pos (by omega), has_is e hm (by omega), hb]; simp only [Option.bind_some, if_true]
      rw [if_pos (by omega), hw]; exact h e
theorem all_some {m : Nat} (hm : m < 4294967296) : ∃ r : List Int, r.length ≤ 32 ∧ ∀ e, roster_Roster_All.f 33 m e = some r :=
  all_l0 hm 32 33 [] 0 (by omega) rfl (by omega) (by simp)
theorem same_l0 (l : List Int) (hl : l.length ≤ 32) : ∀ (d k : Nat) (i : Int), 0 ≤ i → i ≤ l.length → (l.length : Int) - i = d → d < k → cotillionlaw18_Same.l0 k l l l.length i = some 0
  | 0, k, i, h0, h1, hd, hk => by
    obtain ⟨k, rfl⟩ : ∃ q, k = q + 1 := ⟨k - 1, by omega⟩
    simp only [cotillionlaw18_Same.l0]; rw [if_neg (by omega)]
  | d + 1, k, i, h0, h1, hd, hk => by
    obtain ⟨k, rfl⟩ : ∃ q, k = q + 1 := ⟨k - 1, by omega⟩
    simp only [cotillionlaw18_Same.l0]
    rw [if_pos (by omega), if_pos h0, if_pos (by omega), if_pos (by omega), if_pos trivial, wrap_up h0 (by omega)]
    exact same_l0 l hl d k (i + 1) (by omega) (by omega) (by omega) (by omega)
theorem same_self (l : List Int) (hl : l.length ≤ 32) : cotillionlaw18_Same.f 33 l l = some 0 := by
  unfold cotillionlaw18_Same.f
  rw [if_pos rfl]
  exact same_l0 l hl l.length 33 0 (by omega) (by omega) (by omega) (by omega)
theorem rsame_not (m : Int) (k : Nat) : roster_Roster_Same.f k m 2 m 0 = some false := by
  unfold roster_Roster_Same.f
  rw [if_neg (by simp)]
theorem awake_true : cotillionlaw18_awake.f 12 = some true := by kernel_rfl
end Go.Proofs.Ytekmhdiajjfgfaa.QRosterBack
