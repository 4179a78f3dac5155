/- Unlike batches have unlike bytes; a beginning of one's bytes is none; nor is one with a byte more: the law's pure statement. -/
import Derived.Test.YtfhckddfmlljfaaQOrderApartx6
import Derived.Test.YtfhckddfmlljfaaBatch9
import Derived.Test.YtfhckddfmlljfaaNum
namespace Go.Proofs.Ytfhckddfmlljfaa.Pure
open Go.Proofs.Ytfhckddfmlljfaa Go.RowKit Go.Proofs.Ytfhckddfmlljfaa.QOrderApart Go.Proofs.YtfhckddfmlljfaaW.PrintWords Go.Proofs.YtfhckddfmlljfaaW.PrintLast Go.Proofs.YtfhckddfmlljfaaW.PrintMore
set_option linter.unusedVariables false
set_option linter.unusedSimpArgs false

theorem i64_and63 (n : Int) : Go.bits .and .i64 n 63 = n % 64 := by
  have := Int.emod_nonneg n (show (18446744073709551616 : Int) ≠ 0 by decide)
  show IntKind.i64.wrap ((BitVec.ofInt 64 n &&& BitVec.ofInt 64 63).toNat : Int) = _
  rw [BitVec.toNat_and, BitVec.toNat_ofInt, show (BitVec.ofInt 64 63).toNat = 2 ^ 6 - 1 from rfl, Nat.and_two_pow_sub_one_eq_mod, IntKind.wrap_i64]
  omega
theorem i64_and127 (n : Int) : Go.bits .and .i64 n 127 = n % 128 := by
  have := Int.emod_nonneg n (show (18446744073709551616 : Int) ≠ 0 by decide)
  show IntKind.i64.wrap ((BitVec.ofInt 64 n &&& BitVec.ofInt 64 127).toNat : Int) = _
  rw [BitVec.toNat_and, BitVec.toNat_ofInt, show (BitVec.ofInt 64 127).toNat = 2 ^ 7 - 1 from rfl, Nat.and_two_pow_sub_one_eq_mod, IntKind.wrap_i64]
  omega
theorem T1 (a b c : Int) : T ⟨1, 1 + a % 64, 1 + b % 128, c % 128⟩ := by unfold T; dsimp only; refine ⟨?_, ?_, ?_, ?_, ?_, ?_, ?_⟩ <;> omega
theorem T2 (a b : Int) : T ⟨2, 1 + a % 64, 1 + b % 128, 0⟩ := by unfold T; dsimp only; refine ⟨?_, ?_, ?_, ?_, ?_, ?_, ?_⟩ <;> omega
theorem T3 (b c : Int) : T ⟨3, 0, 1 + b % 128, c % 128⟩ := by unfold T; dsimp only; refine ⟨?_, ?_, ?_, ?_, ?_, ?_, ?_⟩ <;> omega
theorem T4 (a : Int) : T ⟨4, 1 + a % 64, 0, 0⟩ := by unfold T; dsimp only; refine ⟨?_, ?_, ?_, ?_, ?_, ?_, ?_⟩ <;> omega
theorem tidy_l0 (l : List S44) : ∀ (d q i : Nat) (acc : List S44), i + d = 8 → acc.length = i → (∀ x ∈ acc, T x) →
    ∃ r, cotillionlaw09_Tidy.l0 (2 * d + 2 + q) l acc i = some r ∧ (∀ x ∈ r, T x) ∧ r.length ≤ 8
  | 0, q, i, acc, hd, hl, hT => by
    refine ⟨acc, ?_, hT, by omega⟩
    rw [show 2 * 0 + 2 + q = q + 1 + 1 from by omega]
    simp only [cotillionlaw09_Tidy.l0, cotillionlaw09_Tidy.j1]
    have e : decide ((i : Int) < 8) = false := by simp; omega
    rw [e]
    by_cases h : (i : Int) < l.length
    · rw [if_pos h, if_neg (by decide)]
    · rw [if_neg h, if_neg (by decide)]
  | d + 1, q, i, acc, hd, hl, hT => by
    have ih := fun x hx => tidy_l0 l d q (i + 1) (acc ++ [x]) (by omega) (by simp; omega) hx
    have e : decide ((i : Int) < 8) = true := by simp; omega
    obtain ⟨F, hF⟩ : ∃ F, 2 * d + 2 + q = F := ⟨_, rfl⟩
    rw [show 2 * (d + 1) + 2 + q = F + 1 + 1 from by omega]
    rw [hF] at ih
    simp only [cotillionlaw09_Tidy.l0, cotillionlaw09_Tidy.j1]
    rw [e]
    by_cases h : (i : Int) < l.length
    · have hlen : acc.length < 4398046511104 := by omega
      rw [if_pos h, if_pos rfl, if_pos (by omega), if_pos h]
      generalize rd_T44 l i = y
      obtain ⟨y0, y1, y2, y3⟩ := y
      simp only [i64_and255, i64_and63, i64_and127]
      have hk : wrap64 (1 + Int.tmod (y0 % 256) 4) = 1 + y0 % 256 % 4 := by
        rw [Int.tmod_eq_emod_of_nonneg (by omega), wrap_in (by omega) (by omega)]
      have hu : wrap64 (1 + y1 % 64) = 1 + y1 % 64 := wrap_in (by omega) (by omega)
      have ha : wrap64 (1 + y2 % 128) = 1 + y2 % 128 := wrap_in (by omega) (by omega)
      have hi : wrap64 ((i : Int) + 1) = ((i + 1 : Nat) : Int) := wrap_in (by omega) (by omega)
      rw [hk, hu, ha, hi]
      clear hk hu ha hi
      have ins : ∀ x, T x → ∀ y ∈ acc ++ [x], T y := fun x hx y hy => by
        rcases List.mem_append.1 hy with h | h
        · exact hT y h
        · rw [List.mem_singleton.1 h]; exact hx
      have hkr : 1 + y0 % 256 % 4 = 1 ∨ 1 + y0 % 256 % 4 = 2 ∨ 1 + y0 % 256 % 4 = 3 ∨ 1 + y0 % 256 % 4 = 4 := by omega
      generalize 1 + y0 % 256 % 4 = kk at hkr ⊢
      rcases hkr with rfl | rfl | rfl | rfl
      · rw [if_neg (by decide), if_neg (by decide), if_neg (by decide), if_pos hlen]
        exact ih _ (ins _ (T1 y1 y2 y3))
      · rw [if_pos rfl, if_pos hlen]
        exact ih _ (ins _ (T2 y1 y2))
      · rw [if_neg (by decide), if_pos rfl, if_pos hlen]
        exact ih _ (ins _ (T3 y2 y3))
      · rw [if_neg (by decide), if_neg (by decide), if_pos rfl, if_pos hlen]
        exact ih _ (ins _ (T4 y1))
    · exact ⟨acc, by rw [if_neg h, if_neg (by decide)], hT, by omega⟩
theorem tidy_some (l : List S44) (k : Nat) (hk : 20 ≤ k) : ∃ r, cotillionlaw09_Tidy.f k l = some r ∧ (∀ x ∈ r, T x) ∧ r.length ≤ 8 := by
  obtain ⟨q, rfl⟩ : ∃ q, k = 2 * 8 + 2 + q := ⟨k - 18, by omega⟩
  exact tidy_l0 l 8 q 0 [] (by omega) rfl (by simp)
def tw (x : S44) : S77 := ⟨x.f0, x.f1, x.f2, x.f3⟩
theorem at44 (l : List S44) {i : Nat} (hi : i < l.length) : rd_T44 l (i : Int) = l[i] := by simp [rd_T44, List.getD_eq_getElem?_getD, hi]
theorem at77 (l : List S77) {i : Nat} (hi : i < l.length) : rd_T77 l (i : Int) = l[i] := by simp [rd_T77, List.getD_eq_getElem?_getD, hi]
theorem told_l0 (l : List S44) (hl : l.length ≤ 8) : ∀ (d q i : Nat), i + d = l.length → cotillionlaw09_Told.l0 (d + 1 + q) ((l.take i).map tw) l l.length i = some (l.map tw)
  | 0, q, i, hd => by
    rw [show 0 + 1 + q = q + 1 from by omega]
    simp only [cotillionlaw09_Told.l0]
    rw [if_neg (by omega), List.take_of_length_le (by omega)]
  | d + 1, q, i, hd => by
    have ih := told_l0 l hl d q (i + 1) (by omega)
    obtain ⟨F, hF⟩ : ∃ F, d + 1 + q = F := ⟨_, rfl⟩
    rw [show d + 1 + 1 + q = F + 1 from by omega]
    rw [hF] at ih
    simp only [cotillionlaw09_Told.l0]
    have hi : wrap64 ((i : Int) + 1) = ((i + 1 : Nat) : Int) := wrap_in (by omega) (by omega)
    have e : (l.take i).map tw ++ [(⟨(rd_T44 l i).f0, (rd_T44 l i).f1, (rd_T44 l i).f2, (rd_T44 l i).f3⟩ : S77)] = (l.take (i + 1)).map tw := by
      rw [at44 l (by omega), List.take_add_one, List.getElem?_eq_getElem (by omega), List.map_append]; rfl
    rw [if_pos (by omega), if_pos (by omega), if_pos (by omega), if_pos (by simp; omega), e, hi]
    exact ih
theorem told_is (l : List S44) (hl : l.length ≤ 8) (k : Nat) (hk : 9 ≤ k) : cotillionlaw09_Told.f k l = some (l.map tw) := by
  obtain ⟨q, rfl⟩ : ∃ q, k = l.length + 1 + q := ⟨k - (l.length + 1), by omega⟩
  exact told_l0 l hl l.length q 0 (by omega)
theorem same_l0 (x y : List S44) (hx : x.length = y.length) (hl : y.length ≤ 8) : ∀ (d q i : Nat), i + d = y.length →
    ∃ r, cotillionlaw09_Same.l0 (d + 1 + q) x (y.map tw) y.length i = some r ∧ (r = 0 ↔ x.drop i = y.drop i)
  | 0, q, i, hd => by
    rw [show 0 + 1 + q = q + 1 from by omega]
    simp only [cotillionlaw09_Same.l0]
    rw [if_neg (by omega)]
    exact ⟨0, rfl, by rw [List.drop_of_length_le (by omega), List.drop_of_length_le (by omega)]; simp⟩
  | d + 1, q, i, hd => by
    obtain ⟨r, h1, h2⟩ := same_l0 x y hx hl d q (i + 1) (by omega)
    obtain ⟨F, hF⟩ : ∃ F, d + 1 + q = F := ⟨_, rfl⟩
    rw [show d + 1 + 1 + q = F + 1 from by omega]
    rw [hF] at h1
    simp only [cotillionlaw09_Same.l0]
    have hi : wrap64 ((i : Int) + 1) = ((i + 1 : Nat) : Int) := wrap_in (by omega) (by omega)
    have ex : x.drop i = x[i] :: x.drop (i + 1) := List.drop_eq_getElem_cons (by omega)
    have ey : y.drop i = y[i] :: y.drop (i + 1) := List.drop_eq_getElem_cons (by omega)
    have e7 : rd_T77 (y.map tw) i = tw y[i] := by rw [at77 _ (by simp; omega)]; simp
    rw [if_pos (by omega), if_pos (by omega), if_pos (by omega), if_pos (by simp; omega), hi, h1, at44 x (by omega), e7, ex, ey]
    have hinj : x[i] = y[i] ↔ ((x[i]).f0 = (y[i]).f0 ∧ (x[i]).f1 = (y[i]).f1 ∧ (x[i]).f2 = (y[i]).f2 ∧ (x[i]).f3 = (y[i]).f3) := by
      generalize x[i] = u
      generalize y[i] = v
      obtain ⟨u0, u1, u2, u3⟩ := u
      obtain ⟨v0, v1, v2, v3⟩ := v
      simp
    by_cases he : x[i] = y[i]
    · have he' := hinj.1 he
      refine ⟨r, ?_, ?_⟩
      · rw [if_neg (by simp only [tw]; simp [he'])]
      · rw [h2, he]; exact ⟨fun h => by rw [h], fun h => (List.cons.inj h).2⟩
    · refine ⟨-1, ?_, ?_⟩
      · rw [if_pos (by
          have hn := fun h => he (hinj.2 h)
          simp only [tw]
          simp only [Bool.or_eq_true, Bool.not_eq_true', beq_eq_false_iff_ne]
          by_cases a0 : (x[i]).f0 = (y[i]).f0
          · by_cases a1 : (x[i]).f1 = (y[i]).f1
            · by_cases a2 : (x[i]).f2 = (y[i]).f2
              · by_cases a3 : (x[i]).f3 = (y[i]).f3
                · exact absurd ⟨a0, a1, a2, a3⟩ hn
                · exact .inr (.inr (.inr a3))
              · exact .inr (.inr (.inl a2))
            · exact .inr (.inl a1)
          · exact .inl a0)]
      · constructor
        · intro h; exact absurd h (by decide)
        · intro h; exact absurd (List.cons.inj h).1 he
theorem same_is (x y : List S44) (hl : y.length ≤ 8) (k : Nat) (hk : 9 ≤ k) : ∃ r, cotillionlaw09_Same.f k x (y.map tw) = some r ∧ (r = 0 ↔ x = y) := by
  unfold cotillionlaw09_Same.f
  rw [List.length_map]
  by_cases hx : x.length = y.length
  · obtain ⟨q, rfl⟩ : ∃ q, k = y.length + 1 + q := ⟨k - (y.length + 1), by omega⟩
    obtain ⟨r, h1, h2⟩ := same_l0 x y hx hl y.length q 0 (by omega)
    exact ⟨r, by rw [if_pos (by omega)]; exact h1, by simpa using h2⟩
  · exact ⟨-1, by rw [if_neg (by omega)], by constructor; intro h; exact absurd h (by decide); intro h; exact absurd (congrArg List.length h) hx⟩
theorem T_wf {x : S44} (h : T x) : (ordOf x).wf := by
  obtain ⟨h0, h1, h2, h3, _⟩ := h
  unfold Ord.wf ordOf; simp only; omega
theorem text_is (os : List S44) (hT : ∀ x ∈ os, T x) (hl : os.length ≤ 8) : order_Batch_Text.f os = some (B (bts os)) := by
  unfold order_Batch_Text.f
  rw [if_pos ⟨by omega, fun x hx => T_wf (hT x hx)⟩, bts_is]
theorem bts_inj {x y : List S44} (hx : ∀ a ∈ x, T a) (hy : ∀ a ∈ y, T a) (hl : x.length ≤ 8) (hm : y.length ≤ 8) (h : bts x = bts y) : x = y := by
  have h1 := parse_ok x hx hl 60 (Nat.le_refl _) []
  have h2 := parse_ok y hy hm 60 (Nat.le_refl _) []
  rw [h] at h1
  rw [h1] at h2
  exact (Prod.mk.inj (Option.some.inj h2)).1
theorem awake_true : cotillionlaw09_awake.f 60 = some true := by
  have e1 : order_Of.f [(⟨1, 1, 2, (-1)⟩ : S44)] = some [(⟨1, 1, 2, (-1)⟩ : S44)] := by kernel_rfl
  have e2 : order_Parse.f 60 (⟨#[1, 1, 1, 4, 1]⟩ : ByteArray) = some ([(⟨1, 1, 2, (-1)⟩ : S44)], 0) := by kernel_rfl
  have e3 : order_Batch_Text.f [(⟨1, 1, 2, (-1)⟩ : S44)] = some (B [1, 1, 1, 4, 1]) := by
    unfold order_Batch_Text.f
    rw [if_pos (by decide), bts_is]
    have z2 : zz 2 = 4 := by decide
    have z1 : zz (-1) = 1 := by decide
    have eb : bts [(⟨1, 1, 2, (-1)⟩ : S44)] = [1, 1, 1, 4, 1] := by
      simp only [bts, List.map_cons, List.map_nil, obs, List.flatMap_cons, List.flatMap_nil, ob, ordOf, cbs, nbs, ibs, ib, List.append_nil, cb_in (show (0 : Int) ≤ 1 by decide), z2, z1, List.length_cons, List.length_nil]
      rw [show IntKind.u64.wrap 1 = 1 from by decide, show (((0 + 1 : Nat) : Int)) = 1 from rfl, nb_small (n := 1) (by decide) (by decide), nb_small (n := 4) (by decide) (by decide)]
      rfl
    rw [eb]
  unfold cotillionlaw09_awake.f
  have e4 : order_Order_Check.f 60 0 0 0 0 = some 7 := by kernel_rfl
  rw [e1, Option.bind_some, e2, Option.bind_some, e3, Option.bind_some, B_list, e4]
  rfl
theorem OrderApart : ∀ (l0 l1 : List S44) (a2 : Int), ∃ k, cotillionlaw09_OrderApart.f k l0 l1 a2 = some true := by
  intro l0 l1 a2
  refine ⟨60, ?_⟩
  obtain ⟨x, hx, hxT, hxl⟩ := tidy_some l0 60 (by decide)
  obtain ⟨y, hy, hyT, hyl⟩ := tidy_some l1 60 (by decide)
  obtain ⟨r, hr, hr0⟩ := same_is x y hyl 60 (by decide)
  unfold cotillionlaw09_OrderApart.f
  rw [awake_true, Option.bind_some, if_pos rfl, hx, Option.bind_some, hy, Option.bind_some, text_is x hxT hxl, Option.bind_some, text_is y hyT hyl, Option.bind_some, told_is y hyl 60 (by decide), Option.bind_some, hr, Option.bind_some]
  simp only [B_list, B_size]
  have hbe : ((bts x == bts y) != (r == 0)) = false := by
    by_cases h : x = y
    · have : r = 0 := hr0.2 h
      rw [h, this]; simp
    · have h1 : bts x ≠ bts y := fun e => h (bts_inj hxT hyT hxl hyl e)
      have h2 : r ≠ 0 := fun e => h (hr0.1 e)
      rw [beq_eq_false_iff_ne.2 h1, beq_eq_false_iff_ne.2 h2]; rfl
  rw [if_neg (by rw [hbe]; decide)]
  have hpos : 0 < (bts x).length := by
    unfold bts
    rcases nb_cases (n := (x.length : Int)) (by omega) (by omega) with ⟨c, e, _⟩ | ⟨c, d, e, _⟩
    · rw [e]; simp
    · rw [e]; simp
  have hsz : (bts x).length ≤ 9223372036854775806 := by
    unfold bts
    have h1 := nb_length (n := (x.length : Int)) (by omega)
    have h2 := obs_length (x.map ordOf) (fun o ho => by obtain ⟨z, hz, rfl⟩ := List.mem_map.1 ho; exact T_wf (hxT z hz))
    rw [List.length_map] at h2
    rw [List.length_append]; omega
  rw [if_neg (by omega)]
  obtain ⟨m, hm, hm1⟩ : ∃ m : Nat, Int.tmod (Go.bits .and .i64 a2 65535) ((bts x).length : Int) = m ∧ m < (bts x).length := by
    rw [i64_and65535, Int.tmod_eq_emod_of_nonneg (by omega)]
    have h1 := Int.emod_nonneg (a2 % 65536) (b := ((bts x).length : Int)) (by omega)
    have h2 := Int.emod_lt_of_pos (a2 % 65536) (b := ((bts x).length : Int)) (by omega)
    exact ⟨(a2 % 65536 % ((bts x).length : Int)).toNat, by omega, by omega⟩
  rw [hm, if_pos (by omega), if_pos (by omega), Int.toNat_natCast]
  have hsplit : bts x = (bts x).take m ++ (bts x).drop m := (List.take_append_drop m _).symm
  have hcut : (B (bts x)).extract 0 m = B ((bts x).take m) := by
    have := B_cut ((bts x).take m) ((bts x).drop m)
    rw [List.take_append_drop, List.length_take, Nat.min_eq_left (by omega)] at this
    exact this
  have p1 : order_Parse.f 60 (B ((bts x).take m)) = some ([], 1) := by
    unfold order_Parse.f wire_Open.f
    simp only [Option.bind_some]
    rw [parse_cut x hxT hxl 60 (by decide) _ _ hsplit (by
      intro h; have := congrArg List.length h; rw [List.length_drop, List.length_nil] at this; omega)]
    simp only [Option.bind_some, wire_In_End.f, B_list]
    rfl
  have p2 : order_Parse.f 60 (B (bts x) ++ (⟨#[0]⟩ : ByteArray)) = some ([], 2) := by
    unfold order_Parse.f wire_Open.f
    simp only [Option.bind_some]
    rw [show (⟨#[0]⟩ : ByteArray) = B [0] from rfl, B_app, parse_ok x hxT hxl 60 (by decide)]
    simp only [Option.bind_some, wire_In_End.f, B_list]
    rfl
  rw [hcut, p1, Option.bind_some, if_pos (by omega), p2, Option.bind_some]
  rfl
end Go.Proofs.Ytfhckddfmlljfaa.Pure
