/- The reference's roster: behind a change. -/
import Derived.Test.YtgkhedmjkahclaaGreatDoorURosR2
import Derived.Test.YtgkhedmjkahclaaGreatDoorURos
namespace Go.Proofs.YtgkhedmjkahclaaGreatDoor.TL
open Go
set_option linter.unusedVariables false
set_option linter.unusedSimpArgs false

theorem has_nat {r : Ros} {i : Nat} (hi : i < 32) : ((i : Int) ∈ r.all 32) ↔ r.s.testBit i = true := by
  rw [mem_all]
  have : (i : Int) < 32 := by omega
  simp [Ros.has, this]
theorem set_add {r : Ros} {p : Int} (hs : r.s < 2 ^ 32) (h0 : 0 ≤ p) (h1 : p < 32) (hp : r.has p = false) : setOf (r.all 32 ++ [p]) = r.s ^^^ 2 ^ p.toNat := by
  have hb : r.s.testBit p.toNat = false := by simpa [Ros.has, h0, h1] using hp
  have hx : r.s ^^^ 2 ^ p.toNat < 2 ^ 32 := Nat.xor_lt_two_pow hs (pow_lt32 (by omega))
  refine Nat.eq_of_testBit_eq fun i => ?_
  by_cases hi : i < 32
  · rw [setOf_bit _ _ hi, Nat.testBit_xor, Nat.testBit_two_pow]
    by_cases hpi : p.toNat = i
    · have : (i : Int) = p := by omega
      subst hpi
      simp [hb, this]
    · have : ¬ (i : Int) = p := by omega
      simp only [List.mem_append, List.mem_singleton, this, or_false, hpi, decide_false, Bool.xor_false]
      by_cases hb2 : r.s.testBit i = true
      · simp [hb2, (has_nat hi).2 hb2]
      · have : ¬ (i : Int) ∈ r.all 32 := fun hh => hb2 ((has_nat hi).1 hh)
        simp [hb2, this]
  · have a1 : (setOf (r.all 32 ++ [p])).testBit i = false := Nat.testBit_lt_two_pow (Nat.lt_of_lt_of_le (setOf_lt _) (Nat.pow_le_pow_right (by decide) (by omega)))
    have a2 : (r.s ^^^ 2 ^ p.toNat).testBit i = false := Nat.testBit_lt_two_pow (Nat.lt_of_lt_of_le hx (Nat.pow_le_pow_right (by decide) (by omega)))
    rw [a1, a2]
theorem set_del {r : Ros} {c : Chg} (h0 : 0 ≤ c.p) (h1 : c.p < 32) (hp : r.has c.p = true) : (r.all 32).filter (fun x => decide (x ≠ c.p)) = (r.app c).all 32 := by
  have hb : r.s.testBit c.p.toNat = true := by simpa [Ros.has, h0, h1] using hp
  unfold Ros.all Ros.app
  rw [List.filter_map, List.filter_filter]
  congr 1
  refine List.filter_congr fun i hi => ?_
  simp only [Function.comp, Nat.testBit_xor, Nat.testBit_two_pow]
  by_cases hpi : c.p.toNat = i
  · have : (i : Int) = c.p := by omega
    subst hpi
    simp [hb]
    omega
  · have : ¬ (i : Int) = c.p := by omega
    simp [this, hpi]

@[simp] theorem AllC_i64c (l : List Int) : AllC (l.map i64c) := fun x hx => by
  obtain ⟨n, _, rfl⟩ := List.mem_map.1 hx
  rfl

set_option maxHeartbeats 2000000 in
set_option maxRecDepth 100000 in
theorem OneR_join (r : Ros) (p : Int) (v : List Int) (hs : r.s < 2 ^ 32) (h0 : 0 ≤ p) (h1 : p < 32) (hp : r.has p = false) (he : 0 ≤ r.e) (he2 : r.e ≤ 9223372036854775000) : callT Tryz.prog 80 [rRos r, .agg (Chg.mk 1 p v).cells] ⟨[], []⟩ (fun x h => x = rRos (r.app ⟨1, p, v⟩) ∧ h = []) := by
  refine callT_of_body [0, 1, 2, 3, 4, 5, 7, 10, 27, 28, 29, 30, 36] [] Tryz.func80 rfl (by decide) (by kernel_rfl) rfl ?_
  have hal := r.all_len 32
  simp [Chg.cells, i64c]
  intro v2 v3 v4
  refine draw_g [1, 2, 4, 5, 6, 10, 11, 12, 0, 3, 7, 8, 9] 13 [(0, []), (3, [0, 1, 2]), (7, [0, 1, 2, 3, 4, 5, 6]), (8, [0, 1, 2, 3, 4, 5, 6, 7])] (by kernel_rfl) (by kernel_rfl) (by kernel_rfl) ?_
  simp
  intro u1
  refine ⟨by omega, by omega, fun u2 => ⟨by omega, by omega, fun u3 => ?_⟩⟩
  have hc := OfR_T (r.all 32 ++ [p]) (by simp; omega)
  refine callT.pre (fn_of hc) (CLx.frz 11 rfl (CLx.done ?_))
  simp
  refine callT_eq [] hc ?_
  have e2 : IntKind.i64.wrap (r.e + 1) = r.e + 1 := i64_id (by omega) (by omega)
  have hst : (Ros.mk (setOf (r.all 32 ++ [p])) 0).all 32 = (r.app ⟨1, p, v⟩).all 32 := by
    rw [set_add hs h0 h1 hp]; rfl
  have htk : List.take ((r.all 32).length + 1) ((r.all 32).map i64c ++ [TV.v (.int .i64 p)]) = (r.all 32).map i64c ++ [TV.v (.int .i64 p)] := List.take_of_length_le (by simp)
  simp [i64c, e2, hst, Ros.app, htk]
def dropP (p : Int) (l : List Int) : List Int := l.filter fun x => decide (x ≠ p)
set_option maxHeartbeats 2000000 in
set_option maxRecDepth 100000 in
theorem OneR_del (l : List Int) (e : Int) (c : Chg) (hk : ¬ c.k = 1) (hal : l.length ≤ 32) (he : 0 ≤ e) (he2 : e ≤ 9223372036854775000) : callT Tryz.prog 80 [rosL l e, .agg c.cells] ⟨[], []⟩ (fun x h => x = rosL (dropP c.p l) (e + 1) ∧ h = []) := by
  refine callT.mono (K := fun x h => ∃ u, x = .agg [.sl 25 u 0 (dropP c.p l).length, i64c (e + 1)] ∧ h = [(25, u, ⟨1, (dropP c.p l).map i64c⟩)]) ?_ fun x h hh => ?_
  · refine callT_of_body [0, 1, 2, 3, 4, 5, 7, 10, 27, 28, 29, 30, 36] [25] Tryz.func80 rfl (by decide) (by kernel_rfl) rfl ?_
    simp [Chg.cells, i64c, hk]
    intro v2 v3 v4 v5
    refine loopT_of (Nat × Nat) (fun x => x.1 ≤ l.length) (fun x => ⟨[(2, .at 2 v2 0), (3, .at 3 v3 0), (4, .at 4 v4 0), (5, .sl 25 x.2 0 (dropP c.p (l.take x.1)).length), (27, .isl (l.map i64c) l.length), (28, .v (.int .i64 l.length)), (29, .v (.int .i64 x.1))], [(2, v2, ⟨0, [.isl (l.map i64c) l.length, i64c e]⟩), (3, v3, ⟨0, [i64c c.k, i64c c.p, .isl (c.v.map i64c) c.v.length]⟩), (4, v4, ⟨0, [.v (.slice none 0 0), .v (.int .i64 0)]⟩), (25, x.2, ⟨1, (dropP c.p (l.take x.1)).map i64c⟩)]⟩) (fun x => l.length - x.1) (0, v5) (by simp) (by simp [dropP]) (by simp [i64c, dropP]) ?_
    rintro ⟨k, u⟩ hkl
    simp only at hkl ⊢
    by_cases g : k < l.length
    · have hat := isl_at g
      have e1 : IntKind.i64.wrap ((k : Int) + 1) = ((k + 1 : Nat) : Int) := by rw [i64_id (by omega) (by omega)]; rfl
      have hf : dropP c.p (l.take (k + 1)) = dropP c.p (l.take k) ++ (if l[k] = c.p then [] else [l[k]]) := by
        unfold dropP
        rw [List.take_succ_eq_append_getElem g, List.filter_append]
        congr 1
        by_cases hh : l[k] = c.p <;> simp [hh]
      have hfl : (dropP c.p (l.take k)).length ≤ k := Nat.le_trans (List.length_filter_le _ _) (by simp; omega)
      generalize hF : dropP c.p (l.take k) = F at hf hfl ⊢
      by_cases hh : l[k] = c.p
      · rw [if_pos hh, List.append_nil] at hf
        simp [g, hat, i64c, hh]
        exact SLx.again (k + 1, u) (by simp only; omega) (by simp only; omega) (by simp only [hf]; simp [e1, i64c]) (by simp only [hf]; simp [i64c])
      · rw [if_neg hh] at hf
        simp [g, hat, i64c, hh]
        intro w
        refine ⟨by omega, by omega, fun u2 => ?_⟩
        exact SLx.again (k + 1, u2) (by simp only; omega) (by simp only; omega) (by simp only [hf]; simp [e1, i64c]) (by simp only [hf]; simp [i64c])
    · have : k = l.length := by omega
      subst this
      have e2 : IntKind.i64.wrap (e + 1) = e + 1 := i64_id (by omega) (by omega)
      rw [List.take_length]
      generalize dropP c.p l = F
      simp [i64c, e2]
  · obtain ⟨u, rfl, rfl⟩ := hh
    refine VLx.frz 25 rfl (VLx.done ?_)
    simp [i64c]
theorem OneR_T (r : Ros) (c : Chg) (hs : r.s < 2 ^ 32) (hc : r.chk c = 0) (he : 0 ≤ r.e) (he2 : r.e ≤ 9223372036854775000) : callT Tryz.prog 80 [rRos r, .agg c.cells] ⟨[], []⟩ (fun x h => x = rRos (r.app c) ∧ h = []) := by
  obtain ⟨h0, h1⟩ := chk_rng hc
  by_cases hk : c.k = 1
  · have hp : r.has c.p = false := by
      cases hp : r.has c.p with
      | false => rfl
      | true =>
        unfold Ros.chk at hc
        split at hc
        · cases hc
        split at hc
        · cases hc
        exact absurd hc (by decide)
    obtain ⟨k, p, v⟩ := c
    simp only at hk
    subst hk
    exact OneR_join r p v hs h0 h1 hp he he2
  · have hp : r.has c.p = true := by
      cases hp : r.has c.p with
      | true => rfl
      | false =>
        unfold Ros.chk at hc
        split at hc
        · cases hc
        split at hc
        · cases hc
        exact absurd hc (by decide)
    have := OneR_del (r.all 32) r.e c hk (r.all_len 32) he he2
    rw [show dropP c.p (r.all 32) = (r.app c).all 32 from set_del h0 h1 hp] at this
    exact this
end Go.Proofs.YtgkhedmjkahclaaGreatDoor.TL
