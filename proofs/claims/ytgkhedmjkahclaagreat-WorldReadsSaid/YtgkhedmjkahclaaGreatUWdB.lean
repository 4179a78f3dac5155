/- A world's bytes, read again. -/
import Derived.Test.YtgkhedmjkahclaaGreatUWRst
import Derived.Test.YtgkhedmjkahclaaGreatUTab8
namespace Go.Proofs.YtgkhedmjkahclaaGreat.TL
open Go
set_option linter.unusedVariables false
set_option linter.unusedSimpArgs false

theorem unzig_rng {n : Nat} (h : n < 18446744073709551616) : -9223372036854775808 ≤ unzig n ∧ unzig n ≤ 9223372036854775807 := by
  unfold unzig
  split <;> omega
theorem cells_ok : ∀ (n k : Nat) (i : In) (c : List Int), k + n ≤ c.length → (In.cells n k i c).1.e = 0 → i.e = 0 ∧ ∃ xs : List Int, xs.length = n ∧ (∀ x ∈ xs, inI64 x) ∧ (In.cells n k i c).2 = c.take k ++ xs ++ c.drop (k + n) ∧ i.l = nbs (xs.map zig) ++ (In.cells n k i c).1.l
  | 0, k, i, c, hk, h => ⟨h, [], rfl, by simp, by simp [In.cells], by simp [In.cells]⟩
  | n + 1, k, i, c, hk, h => by
    rw [In.cells] at h ⊢
    obtain ⟨h1, xs, h2, h3, h4, h5⟩ := cells_ok n (k + 1) i.int.1 (c.set k i.int.2) (by simp; omega) h
    obtain ⟨h6, h7⟩ := In.int_ok h1
    refine ⟨h6, i.int.2 :: xs, by simp [h2], ?_, ?_, ?_⟩
    · intro x hx
      rcases List.mem_cons.1 hx with rfl | hx
      · exact unzig_rng i.num_lt
      · exact h3 x hx
    · have hk' : (c.take k).length = k := by simp; omega
      have e1 : (c.set k i.int.2).take (k + 1) = c.take k ++ [i.int.2] := by
        rw [List.set_eq_take_append_cons_drop, if_pos (by omega), List.take_append, hk', List.take_of_length_le (by omega)]
        simp
      have e2 : (c.set k i.int.2).drop (k + 1 + n) = c.drop (k + (n + 1)) := by
        rw [show k + 1 + n = k + (n + 1) by omega, List.drop_set_of_lt (by omega)]
      rw [h4, e1, e2]
      simp
    · rw [h7, h5]
      simp [nbs]
theorem lastC_eq (c : List Int) (n : Nat) : ∀ m, n ≤ m → (∀ j, n ≤ j → j < m → c[j]?.getD 0 = 0) → (n = 0 ∨ c[n - 1]?.getD 0 ≠ 0) → lastC c m = n
  | 0, hm, _, _ => by simp [lastC]; omega
  | m + 1, hm, hz, hn => by
    simp only [lastC]
    by_cases h : n = m + 1
    · subst h
      rw [if_neg (by rcases hn with hn | hn; omega; simpa using hn)]
    · rw [if_pos (hz m (by omega) (by omega))]
      exact lastC_eq c n m (by omega) (fun j h1 h2 => hz j h1 (by omega)) hn
theorem heap_ok {i : In} (h : i.heap.1.e = 0) : i.e = 0 ∧ (∀ x ∈ i.heap.2, inI64 x) ∧ i.l = heapB i.heap.2 ++ i.heap.1.l := by
  obtain ⟨n, hn⟩ : ∃ n : Nat, (i.count 64).2 = n := ⟨(i.count 64).2.toNat, by have := In.count_rng i 64 (by decide); omega⟩
  have hn64 : n ≤ 64 := by have := In.count_rng i 64 (by decide); omega
  have hh : i.heap = (if 0 < n ∧ (In.cells n 0 (i.count 64).1 (List.replicate 64 0)).2[n - 1]?.getD 0 = 0 then (In.cells n 0 (i.count 64).1 (List.replicate 64 0)).1.fail 2 else (In.cells n 0 (i.count 64).1 (List.replicate 64 0)).1, (In.cells n 0 (i.count 64).1 (List.replicate 64 0)).2) := by
    simp only [In.heap, hn]
    simp
  rw [hh] at h ⊢
  have hc : ¬ (0 < n ∧ (In.cells n 0 (i.count 64).1 (List.replicate 64 0)).2[n - 1]?.getD 0 = 0) := fun hc => by
    rw [if_pos hc] at h
    exact In.fail_e (by decide) h
  rw [if_neg hc] at h ⊢
  obtain ⟨h1, xs, h2, h3, h4, h5⟩ := cells_ok n 0 (i.count 64).1 (List.replicate 64 0) (by simp; omega) h
  obtain ⟨h6, h7⟩ := In.count_ok h1
  simp only [List.take_zero, List.nil_append, Nat.zero_add] at h4
  simp only
  rw [h4] at hc ⊢
  have hl : lastC (xs ++ List.drop n (List.replicate 64 0)) 64 = n := by
    refine lastC_eq _ n 64 hn64 (fun j h8 h9 => ?_) ?_
    · rw [List.getElem?_append_right (by omega), List.getElem?_drop, List.getElem?_replicate]
      split <;> rfl
    · by_cases h0 : n = 0
      · exact .inl h0
      · exact .inr fun h' => hc ⟨by omega, h'⟩
  refine ⟨h6, ?_, ?_⟩
  · intro x hx
    rcases List.mem_append.1 hx with hx | hx
    · exact h3 x hx
    · have := List.eq_of_mem_replicate (List.mem_of_mem_drop hx)
      subst this
      simp [inI64]
  · rw [h7, h5, hn]
    simp only [heapB, hl]
    rw [List.take_append_of_le_length (by omega), List.take_of_length_le (by omega)]
    simp
def evs (i : In) (k : Nat) : List Nat := (List.range k).map fun j => ((eK i j).count 1099511627776).2.toNat
theorem eK_ok (i : In) : ∀ k, (eK i k).e = 0 → i.e = 0 ∧ i.l = nbs (evs i k) ++ (eK i k).l
  | 0, h => ⟨h, by simp [evs, eK]⟩
  | k + 1, h => by
    obtain ⟨h1, h2⟩ := In.count_ok (i := eK i k) h
    obtain ⟨h3, h4⟩ := eK_ok i k h1
    refine ⟨h3, ?_⟩
    rw [h4, h2]
    simp [evs, List.range_succ, nbs, eK]
theorem fin_ok {i : In} (h : i.fin.e = 0) : i.e = 0 ∧ i.l = [] := by
  unfold In.fin at h
  split at h
  · exact absurd h (In.fail_e (by decide))
  · rename_i h1; exact ⟨h, Classical.not_not.1 h1⟩
theorem eV_rng (i : In) (k j : Nat) : 0 ≤ eV i k j ∧ eV i k j ≤ 1099511627776 := by
  unfold eV
  split
  · exact In.count_rng _ _ (by decide)
  · omega
/-- What was read is what is written. -/
theorem wd_ok {i : In} (h : i.wd.1.e = 0) : i.l = wdB i.wd.2 ∧ i.wd.2.Ok 1099511627776 ∧ i.wd.2.R := by
  unfold In.wd at h ⊢
  simp only at h ⊢
  obtain ⟨t, ht⟩ : ∃ t, t = i.count 1099511627776 := ⟨_, rfl⟩
  obtain ⟨d, hd⟩ : ∃ d, d = t.1.num := ⟨_, rfl⟩
  obtain ⟨hp, hhp⟩ : ∃ hp, hp = d.1.heap := ⟨_, rfl⟩
  obtain ⟨tb, htb⟩ : ∃ tb, tb = hp.1.tab := ⟨_, rfl⟩
  obtain ⟨r, hr⟩ : ∃ r, r = tb.1.count 1099511627776 := ⟨_, rfl⟩
  simp only [← ht, ← hd, ← hhp, ← htb, ← hr] at h ⊢
  obtain ⟨a1, a2⟩ := fin_ok h
  obtain ⟨b1, b2⟩ := eK_ok r.1 6 a1
  obtain ⟨c1, c2⟩ := In.count_ok (i := tb.1) (m := 1099511627776) (hr ▸ b1)
  obtain ⟨d1, d2, d3⟩ := In.tab_ok (i := hp.1) (htb ▸ c1)
  obtain ⟨e1, e2, e3⟩ := heap_ok (i := d.1) (hhp ▸ d1)
  obtain ⟨f1, f2⟩ := In.num_ok (i := t.1) (hd ▸ e1)
  obtain ⟨g1, g2⟩ := In.count_ok (i := i) (m := 1099511627776) (ht ▸ f1)
  rw [← hr] at c2
  rw [← htb] at d2 d3
  rw [← hhp] at e2 e3
  rw [← hd] at f2
  rw [← ht] at g2
  have hlen : hp.2.length = 64 := by rw [hhp]; exact heap_len _
  have ht1 := In.count_rng i 1099511627776 (by decide)
  have hr1 := In.count_rng tb.1 1099511627776 (by decide)
  rw [← ht] at ht1
  rw [← hr] at hr1
  have hd1 : d.2 < 18446744073709551616 := by rw [hd]; exact t.1.num_lt
  refine ⟨?_, ⟨d2, hlen, ?_, rfl⟩, ⟨by simp only; omega, e2⟩⟩
  · rw [g2, f2, e3, d3, c2, b2, a2]
    simp [wdB, Wd.ends, evs, List.range_succ, eV]
  · intro x hx
    simp only [List.mem_cons, List.not_mem_nil, or_false] at hx
    rcases hx with rfl | rfl | rfl | rfl | rfl | rfl | rfl | rfl
    · exact hr1
    all_goals first | exact eV_rng _ _ _ | exact ht1
end Go.Proofs.YtgkhedmjkahclaaGreat.TL
