/- Any batch: may it be; its bytes, and back: the law's pure statement. -/
import Derived.Test.YtfhckddfmlljfaaQOrderTextsx9
import Derived.Test.YtfhckddfmlljfaaTexts9eOrderTexts
import Derived.Test.YtfhckddfmlljfaaNum
namespace Go.Proofs.Ytfhckddfmlljfaa.Pure
open Go.Proofs.Ytfhckddfmlljfaa Go.RowKit Go.Proofs.Ytfhckddfmlljfaa.QOrderTexts Go.Proofs.YtfhckddfmlljfaaW.PrintWords Go.Proofs.YtfhckddfmlljfaaW.PrintLast Go.Proofs.YtfhckddfmlljfaaW.PrintMore
set_option linter.unusedVariables false
set_option linter.unusedSimpArgs false

/-- An order that Tidy may give. -/
def T (x : S44) : Prop := (1 ≤ x.f0 ∧ x.f0 ≤ 4) ∧ (0 ≤ x.f1 ∧ x.f1 ≤ 64) ∧ (0 ≤ x.f2 ∧ x.f2 ≤ 128) ∧ (0 ≤ x.f3 ∧ x.f3 ≤ 127) ∧ (x.f0 = 3 ↔ x.f1 = 0) ∧ (x.f0 = 4 → x.f2 = 0 ∧ x.f3 = 0) ∧ (x.f0 = 2 → 1 ≤ x.f2 ∧ x.f3 = 0)
theorem check_ok (k : Nat) {x : S44} (h : T x) : order_Order_Check.f (k + 6) x.f0 x.f1 x.f2 x.f3 = some 0 := by
  obtain ⟨x0, x1, x2, x3⟩ := x
  obtain ⟨h0, h1, h2, h3, h4, h5, h6⟩ := h
  simp only at *
  have f2 : (decide (x2 < -1000 ∨ x2 > 1000)) = false := by simp; omega
  have f3 : (decide (x3 < -1000 ∨ x3 > 1000)) = false := by simp; omega
  simp only [order_Order_Check.f, order_Order_Check.j0, order_Order_Check.j1, order_Order_Check.j2, order_Order_Check.j3, order_Order_Check.j4, far_is, f2, f3, Option.bind_some]
  have d0 : decide (x0 > 4) = false := by simp; omega
  rw [if_neg (by omega), d0, if_neg (by decide), if_neg (by omega), if_neg (by omega)]
  rcases (by omega : x0 = 1 ∨ x0 = 2 ∨ x0 = 3 ∨ x0 = 4) with rfl | rfl | rfl | rfl
  · have e : (((1 : Int) == 3) != (x1 == 0)) = false := by
      have : (x1 == 0) = false := by rw [beq_eq_false_iff_ne]; omega
      rw [this]; rfl
    rw [e]; simp
  · have e : (((2 : Int) == 3) != (x1 == 0)) = false := by
      have : (x1 == 0) = false := by rw [beq_eq_false_iff_ne]; omega
      rw [this]; rfl
    have e3 : (x3 != 0) = false := by have := (h6 rfl).2; simp [this]
    rw [e, if_neg (by decide), if_neg (by decide), if_neg (by decide), if_pos rfl, if_neg (by omega), if_neg (by omega), e3]; simp
  · have e : (((3 : Int) == 3) != (x1 == 0)) = false := by
      have : x1 = 0 := h4.1 rfl
      rw [this]; rfl
    rw [e, if_neg (by decide), if_neg (by decide), if_neg (by decide), if_neg (by decide), if_neg (by decide), if_neg (by decide), if_neg (by decide), if_pos rfl, if_neg (by omega), if_neg (by omega), if_neg (by decide)]
  · have e : (((4 : Int) == 3) != (x1 == 0)) = false := by
      have : (x1 == 0) = false := by rw [beq_eq_false_iff_ne]; omega
      rw [this]; rfl
    have e3 : (x3 != 0) = false := by have := (h5 rfl).2; simp [this]
    rw [e, if_neg (by decide), if_pos rfl, if_pos (h5 rfl).1, e3]; simp
theorem i64_and63 (n : Int) : Go.bits .and .i64 n 63 = n % 64 := by
  have := Int.emod_nonneg n (show (18446744073709551616 : Int) ≠ 0 by decide)
  show IntKind.i64.wrap ((BitVec.ofInt 64 n &&& BitVec.ofInt 64 63).toNat : Int) = _
  rw [BitVec.toNat_and, BitVec.toNat_ofInt, show (BitVec.ofInt 64 63).toNat = 2 ^ 6 - 1 from rfl, Nat.and_two_pow_sub_one_eq_mod, IntKind.wrap_i64]
  omega
theorem i64_and127 (n : Int) : Go.bits .and .i64 n 127 = n % 128 := by
  have := Int.emod_nonneg n (show (18446744073709551616 : Int) ≠ 0 by decide)
  show IntKind.i64.wrap ((BitVec.ofInt 64 n &&& BitVec.ofInt 64 127).toNat : Int) = _
  rw [BitVec.toNat_and, BitVec.toNat_ofInt, show (BitVec.ofInt 64 127).toNat = 2 ^ 7 - 1 from rfl, Nat.and_two_pow_sub_one_eq_mod, IntKind.wrap_i64]
  omega
theorem T1 (a b c : Int) : T ⟨1, 1 + a % 64, 1 + b % 128, c % 128⟩ := by unfold T; dsimp only; refine ⟨?_, ?_, ?_, ?_, ?_, ?_, ?_⟩ <;> omega
theorem T2 (a b : Int) : T ⟨2, 1 + a % 64, 1 + b % 128, 0⟩ := by unfold T; dsimp only; refine ⟨?_, ?_, ?_, ?_, ?_, ?_, ?_⟩ <;> omega
theorem T3 (b c : Int) : T ⟨3, 0, 1 + b % 128, c % 128⟩ := by unfold T; dsimp only; refine ⟨?_, ?_, ?_, ?_, ?_, ?_, ?_⟩ <;> omega
theorem T4 (a : Int) : T ⟨4, 1 + a % 64, 0, 0⟩ := by unfold T; dsimp only; refine ⟨?_, ?_, ?_, ?_, ?_, ?_, ?_⟩ <;> omega
theorem tidy_l0 (l : List S44) : ∀ (d q i : Nat) (acc : List S44), i + d = 8 → acc.length = i → (∀ x ∈ acc, T x) →
    ∃ r, cotillionlaw09_Tidy.l0 (2 * d + 2 + q) l acc i = some r ∧ (∀ x ∈ r, T x) ∧ r.length ≤ 8
  | 0, q, i, acc, hd, hl, hT => by
    refine ⟨acc, ?_, hT, by omega⟩
    rw [show 2 * 0 + 2 + q = q + 1 + 1 from by omega]
    simp only [cotillionlaw09_Tidy.l0, cotillionlaw09_Tidy.j1]
    have e : decide ((i : Int) < 8) = false := by simp; omega
    rw [e]
    by_cases h : (i : Int) < l.length
    · rw [if_pos h, if_neg (by decide)]
    · rw [if_neg h, if_neg (by decide)]
  | d + 1, q, i, acc, hd, hl, hT => by
    have ih := fun x hx => tidy_l0 l d q (i + 1) (acc ++ [x]) (by omega) (by simp; omega) hx
    have e : decide ((i : Int) < 8) = true := by simp; omega
    obtain ⟨F, hF⟩ : ∃ F, 2 * d + 2 + q = F := ⟨_, rfl⟩
    rw [show 2 * (d + 1) + 2 + q = F + 1 + 1 from by omega]
    rw [hF] at ih
    simp only [cotillionlaw09_Tidy.l0, cotillionlaw09_Tidy.j1]
    rw [e]
    by_cases h : (i : Int) < l.length
    · have hlen : acc.length < 4398046511104 := by omega
      rw [if_pos h, if_pos rfl, if_pos (by omega), if_pos h]
      generalize rd_T44 l i = y
      obtain ⟨y0, y1, y2, y3⟩ := y
      simp only [i64_and255, i64_and63, i64_and127]
      have hk : wrap64 (1 + Int.tmod (y0 % 256) 4) = 1 + y0 % 256 % 4 := by
        rw [Int.tmod_eq_emod_of_nonneg (by omega), wrap_in (by omega) (by omega)]
      have hu : wrap64 (1 + y1 % 64) = 1 + y1 % 64 := wrap_in (by omega) (by omega)
      have ha : wrap64 (1 + y2 % 128) = 1 + y2 % 128 := wrap_in (by omega) (by omega)
      have hi : wrap64 ((i : Int) + 1) = ((i + 1 : Nat) : Int) := wrap_in (by omega) (by omega)
      rw [hk, hu, ha, hi]
      clear hk hu ha hi
      have ins : ∀ x, T x → ∀ y ∈ acc ++ [x], T y := fun x hx y hy => by
        rcases List.mem_append.1 hy with h | h
        · exact hT y h
        · rw [List.mem_singleton.1 h]; exact hx
      have hkr : 1 + y0 % 256 % 4 = 1 ∨ 1 + y0 % 256 % 4 = 2 ∨ 1 + y0 % 256 % 4 = 3 ∨ 1 + y0 % 256 % 4 = 4 := by omega
      generalize 1 + y0 % 256 % 4 = kk at hkr ⊢
      rcases hkr with rfl | rfl | rfl | rfl
      · rw [if_neg (by decide), if_neg (by decide), if_neg (by decide), if_pos hlen]
        exact ih _ (ins _ (T1 y1 y2 y3))
      · rw [if_pos rfl, if_pos hlen]
        exact ih _ (ins _ (T2 y1 y2))
      · rw [if_neg (by decide), if_pos rfl, if_pos hlen]
        exact ih _ (ins _ (T3 y2 y3))
      · rw [if_neg (by decide), if_neg (by decide), if_pos rfl, if_pos hlen]
        exact ih _ (ins _ (T4 y1))
    · exact ⟨acc, by rw [if_neg h, if_neg (by decide)], hT, by omega⟩
theorem tidy_some (l : List S44) (k : Nat) (hk : 20 ≤ k) : ∃ r, cotillionlaw09_Tidy.f k l = some r ∧ (∀ x ∈ r, T x) ∧ r.length ≤ 8 := by
  obtain ⟨q, rfl⟩ : ∃ q, k = 2 * 8 + 2 + q := ⟨k - 18, by omega⟩
  exact tidy_l0 l 8 q 0 [] (by omega) rfl (by simp)
theorem told_l0 (l : List S44) (hl : l.length ≤ 10) : ∀ (d q i : Nat), i + d = l.length → cotillionlaw09_Told.l0 (d + 1 + q) ((l.take i).map tw) l l.length i = some (l.map tw)
  | 0, q, i, hd => by
    rw [show 0 + 1 + q = q + 1 from by omega]
    simp only [cotillionlaw09_Told.l0]
    rw [if_neg (by omega), List.take_of_length_le (by omega)]
  | d + 1, q, i, hd => by
    have ih := told_l0 l hl d q (i + 1) (by omega)
    obtain ⟨F, hF⟩ : ∃ F, d + 1 + q = F := ⟨_, rfl⟩
    rw [show d + 1 + 1 + q = F + 1 from by omega]
    rw [hF] at ih
    simp only [cotillionlaw09_Told.l0]
    have hi : wrap64 ((i : Int) + 1) = ((i + 1 : Nat) : Int) := wrap_in (by omega) (by omega)
    have e : (l.take i).map tw ++ [(⟨(rd_T44 l i).f0, (rd_T44 l i).f1, (rd_T44 l i).f2, (rd_T44 l i).f3⟩ : S77)] = (l.take (i + 1)).map tw := by
      rw [at44 l (by omega), List.take_add_one, List.getElem?_eq_getElem (by omega), List.map_append]; rfl
    rw [if_pos (by omega), if_pos (by omega), if_pos (by omega), if_pos (by simp; omega), e, hi]
    exact ih
theorem told_is (l : List S44) (hl : l.length ≤ 10) (k : Nat) (hk : 11 ≤ k) : cotillionlaw09_Told.f k l = some (l.map tw) := by
  obtain ⟨q, rfl⟩ : ∃ q, k = l.length + 1 + q := ⟨k - (l.length + 1), by omega⟩
  exact told_l0 l hl l.length q 0 (by omega)
theorem same_l0 (x y : List S44) (hx : x.length = y.length) (hl : y.length ≤ 8) : ∀ (d q i : Nat), i + d = y.length →
    ∃ r, cotillionlaw09_Same.l0 (d + 1 + q) x (y.map tw) y.length i = some r ∧ (r = 0 ↔ x.drop i = y.drop i)
  | 0, q, i, hd => by
    rw [show 0 + 1 + q = q + 1 from by omega]
    simp only [cotillionlaw09_Same.l0]
    rw [if_neg (by omega)]
    exact ⟨0, rfl, by rw [List.drop_of_length_le (by omega), List.drop_of_length_le (by omega)]; simp⟩
  | d + 1, q, i, hd => by
    obtain ⟨r, h1, h2⟩ := same_l0 x y hx hl d q (i + 1) (by omega)
    obtain ⟨F, hF⟩ : ∃ F, d + 1 + q = F := ⟨_, rfl⟩
    rw [show d + 1 + 1 + q = F + 1 from by omega]
    rw [hF] at h1
    simp only [cotillionlaw09_Same.l0]
    have hi : wrap64 ((i : Int) + 1) = ((i + 1 : Nat) : Int) := wrap_in (by omega) (by omega)
    have ex : x.drop i = x[i] :: x.drop (i + 1) := List.drop_eq_getElem_cons (by omega)
    have ey : y.drop i = y[i] :: y.drop (i + 1) := List.drop_eq_getElem_cons (by omega)
    have e7 : rd_T77 (y.map tw) i = tw y[i] := by exact at77 y (by omega)
    rw [if_pos (by omega), if_pos (by omega), if_pos (by omega), if_pos (by simp; omega), hi, h1, at44 x (by omega), e7, ex, ey]
    have hinj : x[i] = y[i] ↔ ((x[i]).f0 = (y[i]).f0 ∧ (x[i]).f1 = (y[i]).f1 ∧ (x[i]).f2 = (y[i]).f2 ∧ (x[i]).f3 = (y[i]).f3) := by
      generalize x[i] = u
      generalize y[i] = v
      obtain ⟨u0, u1, u2, u3⟩ := u
      obtain ⟨v0, v1, v2, v3⟩ := v
      simp
    by_cases he : x[i] = y[i]
    · have he' := hinj.1 he
      refine ⟨r, ?_, ?_⟩
      · rw [if_neg (by simp only [tw]; simp [he'])]
      · rw [h2, he]; exact ⟨fun h => by rw [h], fun h => (List.cons.inj h).2⟩
    · refine ⟨-1, ?_, ?_⟩
      · rw [if_pos (by
          have hn := fun h => he (hinj.2 h)
          simp only [tw]
          simp only [Bool.or_eq_true, Bool.not_eq_true', beq_eq_false_iff_ne]
          by_cases a0 : (x[i]).f0 = (y[i]).f0
          · by_cases a1 : (x[i]).f1 = (y[i]).f1
            · by_cases a2 : (x[i]).f2 = (y[i]).f2
              · by_cases a3 : (x[i]).f3 = (y[i]).f3
                · exact absurd ⟨a0, a1, a2, a3⟩ hn
                · exact .inr (.inr (.inr a3))
              · exact .inr (.inr (.inl a2))
            · exact .inr (.inl a1)
          · exact .inl a0)]
      · constructor
        · intro h; exact absurd h (by decide)
        · intro h; exact absurd (List.cons.inj h).1 he
theorem same_is (x y : List S44) (hl : y.length ≤ 8) (k : Nat) (hk : 11 ≤ k) : ∃ r, cotillionlaw09_Same.f k x (y.map tw) = some r ∧ (r = 0 ↔ x = y) := by
  unfold cotillionlaw09_Same.f
  rw [List.length_map]
  by_cases hx : x.length = y.length
  · obtain ⟨q, rfl⟩ : ∃ q, k = y.length + 1 + q := ⟨k - (y.length + 1), by omega⟩
    obtain ⟨r, h1, h2⟩ := same_l0 x y hx hl y.length q 0 (by omega)
    exact ⟨r, by rw [if_pos (by omega)]; exact h1, by simpa using h2⟩
  · exact ⟨-1, by rw [if_neg (by omega)], by constructor; intro h; exact absurd h (by decide); intro h; exact absurd (congrArg List.length h) hx⟩
theorem May_T {x : S44} (h : T x) : May x := by
  obtain ⟨c, h1, _, h3⟩ := check_any x
  have := check_ok 0 h
  rw [h1 0] at this
  exact h3 (Option.some.inj this)
theorem awake_true : cotillionlaw09_awake.f 1100 = some true := by
  have e1 : order_Of.f [(⟨1, 1, 2, (-1)⟩ : S44)] = some [(⟨1, 1, 2, (-1)⟩ : S44)] := by kernel_rfl
  have e2 : order_Parse.f 1100 (⟨#[1, 1, 1, 4, 1]⟩ : ByteArray) = some ([(⟨1, 1, 2, (-1)⟩ : S44)], 0) := by kernel_rfl
  have e3 : order_Batch_Text.f [(⟨1, 1, 2, (-1)⟩ : S44)] = some (B [1, 1, 1, 4, 1]) := by
    unfold order_Batch_Text.f
    rw [if_pos (by decide), bts_is]
    have z2 : zz 2 = 4 := by decide
    have z1 : zz (-1) = 1 := by decide
    have eb : bts [(⟨1, 1, 2, (-1)⟩ : S44)] = [1, 1, 1, 4, 1] := by
      simp only [bts, List.map_cons, List.map_nil, obs, List.flatMap_cons, List.flatMap_nil, ob, ordOf, cbs, nbs, ibs, ib, List.append_nil, cb_in (show (0 : Int) ≤ 1 by decide), z2, z1, List.length_cons, List.length_nil]
      rw [show IntKind.u64.wrap 1 = 1 from by decide, show (((0 + 1 : Nat) : Int)) = 1 from rfl, nb_small (n := 1) (by decide) (by decide), nb_small (n := 4) (by decide) (by decide)]
      rfl
    rw [eb]
  unfold cotillionlaw09_awake.f
  rw [e1, Option.bind_some, e2, Option.bind_some, e3, Option.bind_some, B_list]
  have e4 : order_Order_Check.f 1100 0 0 0 0 = some 7 := by kernel_rfl
  rw [e4]
  rfl
theorem j_end (j : Nat → List S44 → Int → Bool → Option Bool) (hj : j = cotillionlaw09_OrderTexts.j0 ∨ j = cotillionlaw09_OrderTexts.j1 ∨ j = cotillionlaw09_OrderTexts.j2 ∨ j = cotillionlaw09_OrderTexts.j3) (l : List S44) (c : Int) (h : c = 0 → l.length ≤ 8 ∧ ∀ x ∈ l, May x) : j 1100 l c false = some true := by
  by_cases hc : c = 0
  · obtain ⟨hl, hT⟩ := h hc
    obtain ⟨r, hr, hr0⟩ := same_is l l hl 1099 (by decide)
    have hz : r = 0 := hr0.2 rfl
    subst hz
    rcases hj with rfl | rfl | rfl | rfl <;>
    · simp only [cotillionlaw09_OrderTexts.j0, cotillionlaw09_OrderTexts.j1, cotillionlaw09_OrderTexts.j2, cotillionlaw09_OrderTexts.j3]
      rw [if_neg (by decide), if_pos hc, text_M l hT hl, Option.bind_some, parse_M l hT hl 1099 (by decide), Option.bind_some, told_is l (by omega) 1099 (by decide)]
      simp only [Option.bind_some]
      rw [reftext l hl hT 1099 (by decide)]
      simp only [Option.bind_some, if_true, hr]
      rfl
  · rcases hj with rfl | rfl | rfl | rfl <;>
    · simp only [cotillionlaw09_OrderTexts.j0, cotillionlaw09_OrderTexts.j1, cotillionlaw09_OrderTexts.j2, cotillionlaw09_OrderTexts.j3]
      rw [if_neg (by decide), if_neg hc]
theorem batch_l0_may (l : List S44) (hM : ∀ x ∈ l, May x) : ∀ (d q i : Nat), i + d = l.length → l.length ≤ 8 → order_Batch_Check.l0 (d + 7 + q) l l.length i = some 0
  | 0, q, i, hd, hl => by rw [show 0 + 7 + q = (6 + q) + 1 from by omega, order_Batch_Check.l0, if_neg (by omega)]
  | d + 1, q, i, hd, hl => by
    have hi : i < l.length := by omega
    have gk := (hM l[i] (List.getElem_mem hi)).2 (d + 1 + q)
    rw [show d + 1 + q + 6 = d + 7 + q from by omega] at gk
    have hw : wrap64 ((i : Int) + 1) = ((i + 1 : Nat) : Int) := wrap_in (by omega) (by omega)
    rw [show d + 1 + 7 + q = (d + 7 + q) + 1 from by omega, order_Batch_Check.l0, if_pos (by omega), if_pos (by omega), if_pos (by omega), at44 l hi, gk, Option.bind_some, if_pos rfl, hw]
    exact batch_l0_may l hM d q (i + 1) (by omega) hl
theorem batch_may (l : List S44) (hl : l.length ≤ 8) (hM : ∀ x ∈ l, May x) : order_Batch_Check.f 1100 l = some 0 ∧ cotillionref09_CheckAll.f 1100 (l.map tw) = some 0 := by
  obtain ⟨c, h1, h2, _⟩ := batch_both l (by omega) 1100 (by decide)
  have h0 : order_Batch_Check.f 1100 l = some 0 := by
    unfold order_Batch_Check.f
    obtain ⟨q, hq⟩ : ∃ q, 1100 = l.length + 7 + q := ⟨1100 - (l.length + 7), by omega⟩
    rw [if_neg (by omega), hq]
    exact batch_l0_may l hM l.length q 0 (by omega) hl
  rw [h0] at h1
  exact ⟨h0, by rw [h2, ← h1]⟩
theorem OrderTexts : ∀ (l0 : List S44) (a1 : Bool), ∃ k, cotillionlaw09_OrderTexts.f k l0 a1 = some true := by
  intro l0 a1
  refine ⟨1100 + 0, ?_⟩
  unfold cotillionlaw09_OrderTexts.f
  rw [awake_true, Option.bind_some, if_pos rfl]
  have plain : ∀ (l : List S44), l.length ≤ 10 → ∃ c, order_Batch_Check.f 1100 l = some c ∧ cotillionlaw09_Told.f 1100 l = some (l.map tw) ∧ cotillionref09_CheckAll.f 1100 (l.map tw) = some c ∧ (c = 0 → l.length ≤ 8 ∧ ∀ x ∈ l, May x) := fun l hl => by
    obtain ⟨c, h1, h2, h3⟩ := batch_both l (by omega) 1100 (by decide)
    exact ⟨c, h1, told_is l hl 1100 (by decide), h2, h3⟩
  have tidy : ∀ (l : List S44), ∃ t, cotillionlaw09_Tidy.f 1100 l = some t ∧ order_Batch_Check.f 1100 t = some 0 ∧ cotillionlaw09_Told.f 1100 t = some (t.map tw) ∧ cotillionref09_CheckAll.f 1100 (t.map tw) = some 0 ∧ (t.length ≤ 8 ∧ ∀ x ∈ t, May x) := fun l => by
    obtain ⟨t, h, hT, hl⟩ := tidy_some l 1100 (by decide)
    have hM : ∀ x ∈ t, May x := fun x hx => May_T (hT x hx)
    obtain ⟨h1, h2⟩ := batch_may t hl hM
    exact ⟨t, h, h1, told_is t (by omega) 1100 (by decide), h2, hl, hM⟩
  by_cases h10 : (l0.length : Int) > 10
  · rw [if_pos h10, if_pos (by omega)]
    simp only [Option.bind_some]
    by_cases ha : a1 = true
    · obtain ⟨t, t1, t2, t3, t4, t5⟩ := tidy (l0.take 10)
      rw [if_pos ha, t1]; simp only [Option.bind_some]; rw [t2]; simp only [Option.bind_some]; rw [t3]; simp only [Option.bind_some]; rw [t4]; simp only [Option.bind_some]
      rw [if_pos trivial]; exact j_end _ (.inl rfl) t 0 (fun _ => t5)
    · obtain ⟨c, t2, t3, t4, t5⟩ := plain (l0.take 10) (by simp; omega)
      rw [if_neg ha, t2]; simp only [Option.bind_some]; rw [t3]; simp only [Option.bind_some]; rw [t4]; simp only [Option.bind_some]
      rw [if_pos trivial]; exact j_end _ (.inr (.inl rfl)) _ c t5
  · rw [if_neg h10]
    by_cases ha : a1 = true
    · obtain ⟨t, t1, t2, t3, t4, t5⟩ := tidy l0
      rw [if_pos ha, t1]; simp only [Option.bind_some]; rw [t2]; simp only [Option.bind_some]; rw [t3]; simp only [Option.bind_some]; rw [t4]; simp only [Option.bind_some]
      rw [if_pos trivial]; exact j_end _ (.inr (.inr (.inl rfl))) t 0 (fun _ => t5)
    · obtain ⟨c, t2, t3, t4, t5⟩ := plain l0 (by omega)
      rw [if_neg ha, t2]; simp only [Option.bind_some]; rw [t3]; simp only [Option.bind_some]; rw [t4]; simp only [Option.bind_some]
      rw [if_pos trivial]; exact j_end _ (.inr (.inr (.inr rfl))) _ c t5
end Go.Proofs.Ytfhckddfmlljfaa.Pure
