/- A change's bytes, and back; a roster's bytes, and back: plain laws. -/
import Derived.Test.YtgkhedmjkahclaaGreatDoorURos
import Derived.Test.YtgkhedmjkahclaaGreatDoorUWire
namespace Go.Proofs.YtgkhedmjkahclaaGreatDoor.TL
open Go
set_option linter.unusedVariables false
set_option linter.unusedSimpArgs false

theorem vot_nb (rest : List UInt8) : ∀ (v pre : List Int), (∀ n ∈ v, 0 ≤ n ∧ n ≤ 31) → In.vot v.length ⟨nbs (v.map Int.toNat) ++ rest, 0⟩ pre = (⟨rest, 0⟩, pre ++ v)
  | [], pre, _ => by simp [In.vot]
  | n :: v, pre, h => by
    have hn := h n List.mem_cons_self
    have e1 : nbs ((n :: v).map Int.toNat) ++ rest = nb n.toNat ++ (nbs (v.map Int.toNat) ++ rest) := by simp [nbs]
    have e2 : ((n.toNat : Nat) : Int) = n := by omega
    have hc := In.count_nb (nbs (v.map Int.toNat) ++ rest) (n := n.toNat) (m := 31) (by decide) (by omega)
    rw [List.length_cons, In.vot, if_neg (by simp), e1, hc, e2, vot_nb rest v (pre ++ [n]) fun m hm => h m (List.mem_cons_of_mem _ hm)]
    simp
theorem okAt_rise {r : Ros} {no : Int} {l : List Int} (h : ∀ i, i < l.length → r.okAt no l i = true) : ∀ (i : Nat) (hi : i < l.length), (i : Int) ≤ l[i] ∧ l[i] < 32
  | 0, hi => by
    have h0 := h 0 hi
    simp only [Ros.okAt, Ros.has, Bool.and_eq_true, decide_eq_true_eq] at h0
    have hg : l.getD 0 0 = l[0] := by simp [hi]
    rw [hg] at h0
    exact ⟨by omega, h0.1.2.1⟩
  | i + 1, hi => by
    have h0 := h (i + 1) hi
    have ih := okAt_rise h i (by omega)
    have hg : l.getD (i + 1) 0 = l[i + 1] := by simp [hi]
    have hg2 : l.getD (i + 1 - 1) 0 = l[i] := by simp [show i < l.length by omega]
    simp only [Ros.okAt, Ros.has, hg, hg2, Bool.and_eq_true, Bool.or_eq_true, decide_eq_true_eq] at h0
    have h3 : l[i] < l[i + 1] := by
      rcases h0.2.2 with h4 | h4
      · omega
      · exact h4
    exact ⟨by omega, h0.1.2.1⟩
theorem chk_v {r : Ros} {c : Chg} (h : r.chk c = 0) : (1 ≤ c.k ∧ c.k ≤ 3) ∧ (∀ n ∈ c.v, 0 ≤ n ∧ n ≤ 31) ∧ c.v.length ≤ 32 := by
  unfold Ros.chk at h
  split at h
  · cases h
  rename_i h1
  split at h
  · cases h
  rename_i h2
  refine ⟨by omega, ?_⟩
  by_cases hk : c.k = 3
  · split at h
    · omega
    split at h
    · cases h
    split at h
    · cases h
    rename_i hm
    have hmm : r.most c.p c.v = true := by
      cases hx : r.most c.p c.v with
      | true => rfl
      | false => exact absurd ⟨hk, hx⟩ hm
    unfold Ros.most at hmm
    simp only [Bool.and_eq_true, List.all_eq_true, List.mem_range] at hmm
    have hr := okAt_rise hmm.1
    refine ⟨fun n hn => ?_, ?_⟩
    · obtain ⟨i, hi, rfl⟩ := List.getElem_of_mem hn
      have := hr i hi
      omega
    · rcases Nat.lt_or_ge 32 c.v.length with h5 | h5
      · have := hr 32 h5
        omega
      · exact h5
  · have : c.v = [] := List.length_eq_zero_iff.1 (by omega)
    rw [this]
    exact ⟨fun n hn => (by cases hn), Nat.zero_le _⟩
theorem chk_small {r : Ros} {c : Chg} (h : r.chk c = 0) : c.small := by
  have h1 := chk_v h
  have h2 := chk_rng h
  exact ⟨by omega, by omega, fun n hn => by have := h1.2.1 n hn; omega, by omega⟩
theorem chg_nb {r : Ros} {c : Chg} (h : r.chk c = 0) : In.chg ⟨c.bytes, 0⟩ = (⟨[], 0⟩, c) := by
  obtain ⟨h1, h2, h3⟩ := chk_v h
  have h4 := chk_rng h
  have e1 : c.bytes = nb c.k.toNat ++ (nb c.p.toNat ++ (nb c.v.length ++ (nbs (c.v.map Int.toNat) ++ []))) := by simp [Chg.bytes, nbs]
  have k1 := In.count_nb (nb c.p.toNat ++ (nb c.v.length ++ (nbs (c.v.map Int.toNat) ++ []))) (n := c.k.toNat) (m := 3) (by decide) (by omega)
  have k2 := In.count_nb (nb c.v.length ++ (nbs (c.v.map Int.toNat) ++ [])) (n := c.p.toNat) (m := 31) (by decide) (by omega)
  have k3 := In.count_nb (nbs (c.v.map Int.toNat) ++ []) (n := c.v.length) (m := 32) (by decide) (by omega)
  have k4 := vot_nb [] c.v [] h2
  have e2 : ((c.k.toNat : Nat) : Int) = c.k := by omega
  have e3 : ((c.p.toNat : Nat) : Int) = c.p := by omega
  unfold In.chg
  simp only [e1, k1, k2, k3, Int.toNat_natCast, k4, e2, e3]
  simp
theorem ros_nb {r : Ros} (hs : r.s < 2 ^ 32) (he : 0 ≤ r.e) (he2 : r.e ≤ 1099511627776) : In.ros ⟨r.bytes, 0⟩ = (⟨[], 0⟩, r) := by
  have e1 : r.bytes = nb r.s ++ (nb r.e.toNat ++ []) := by simp [Ros.bytes]
  have k1 := In.count_nb (nb r.e.toNat ++ []) (n := r.s) (m := 4294967295) (by decide) (by omega)
  have k2 := In.count_nb [] (n := r.e.toNat) (m := 1099511627776) (by decide) (by omega)
  have e2 : ((r.e.toNat : Nat) : Int) = r.e := by omega
  unfold In.ros
  simp only [e1, k1, k2, e2]
  simp

end Go.Proofs.YtgkhedmjkahclaaGreatDoor.TL
