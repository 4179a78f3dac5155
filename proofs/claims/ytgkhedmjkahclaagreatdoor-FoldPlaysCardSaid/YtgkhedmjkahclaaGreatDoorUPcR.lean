/- The reference's pieces: may they be, their bytes, read of bytes. -/
import Derived.Test.YtgkhedmjkahclaaGreatDoorUPc
import Derived.Test.YtgkhedmjkahclaaGreatDoorUWire
namespace Go.Proofs.YtgkhedmjkahclaaGreatDoor.TL
open Go
set_option linter.unusedVariables false
set_option linter.unusedSimpArgs false

theorem StrR_T (s : List UInt8) (hs : s.length ≤ 1000000) : callT Tryz.prog 67 [.v (.string (bs s))] ⟨[], []⟩ (fun x h => x = .v (.string (bs (nb s.length ++ s))) ∧ h = []) := by
  refine callT_of_body [0, 2] [] Tryz.func67 rfl (by decide) (by kernel_rfl) rfl ?_
  have l1 := nb_len10 (n := s.length) (by omega)
  have e1 : IntKind.u64.wrap (s.length : Int) = s.length := u64_id (by omega) (by omega)
  simp [e1]
  refine callT_eq [] (NumR_T s.length (by omega)) ?_
  simp
  omega
/-- A piece that may be is read of its bytes; what is read is written the same. -/
theorem str_nb (rest : List UInt8) {s : List UInt8} {m : Int} (hm : m < 2 ^ 63) (h : (s.length : Int) ≤ m) : In.str ⟨nb s.length ++ (s ++ rest), 0⟩ m = (⟨rest, 0⟩, s) := by
  have k1 := In.count_nb (s ++ rest) (n := s.length) (m := m) (by omega) h
  unfold In.str
  rw [k1]
  unfold In.raw
  by_cases h0 : s.length = 0
  · have : s = [] := List.eq_nil_of_length_eq_zero h0
    subst this
    simp
  · have g1 : ¬ ((In.mk (s ++ rest) 0).e ≠ 0 ∨ (s.length : Int) ≤ 0) := by simp only [ne_eq, not_true_eq_false, false_or]; omega
    have g2 : ¬ ((In.mk (s ++ rest) 0).l.length : Int) < (s.length : Int) := by simp only [List.length_append]; omega
    simp [g1, g2, h0]
    omega
structure Pcs.wf (p : Pcs) : Prop where
  c : p.chk = 0
  h : p.h < 2 ^ 64
theorem Pcs.wf.rng {p : Pcs} (h : p.wf) : 0 ≤ p.t ∧ p.t ≤ 1099511627776 ∧ 0 ≤ p.n ∧ p.n ≤ 656 ∧ 1 ≤ p.b ∧ p.b ≤ 65536 ∧ (p.s.length : Int) ≤ 100 := by
  have hc := h.c
  unfold Pcs.chk at hc
  split at hc
  · cases hc
  split at hc
  · cases hc
  split at hc
  · cases hc
  unfold pcN at *
  omega
theorem Pcs.wf.ok {p : Pcs} (h : p.wf) : p.ok := by
  have := h.rng
  exact ⟨by omega, by omega, h.h, by omega, by omega⟩
theorem pcs_nb (rest : List UInt8) {p : Pcs} (h : p.wf) : In.pcs ⟨p.bytes ++ rest, 0⟩ = (⟨rest, 0⟩, p) := by
  obtain ⟨h1, h2, h3, h4, h5, h6, h7⟩ := h.rng
  have hc := h.c
  have hh := h.h
  obtain ⟨t, b, hs, n, s⟩ := p
  simp only at h1 h2 h3 h4 h5 h6 h7 hh
  have e1 : (Pcs.mk t b hs n s).bytes ++ rest = nb t.toNat ++ (nb b.toNat ++ (nb hs ++ (nb n.toNat ++ (nb s.length ++ (s ++ rest))))) := by simp [Pcs.bytes]
  have k1 := In.count_nb (nb b.toNat ++ (nb hs ++ (nb n.toNat ++ (nb s.length ++ (s ++ rest))))) (n := t.toNat) (m := 1099511627776) (by decide) (by omega)
  have k2 := In.count_nb (nb hs ++ (nb n.toNat ++ (nb s.length ++ (s ++ rest)))) (n := b.toNat) (m := 65536) (by decide) (by omega)
  have k3 := In.num_nb (nb n.toNat ++ (nb s.length ++ (s ++ rest))) (n := hs) hh
  have k4 := In.count_nb (nb s.length ++ (s ++ rest)) (n := n.toNat) (m := 65536) (by decide) (by omega)
  have k5 := str_nb rest (s := s) (m := 100) (by decide) h7
  have e2 : ((t.toNat : Nat) : Int) = t := by omega
  have e3 : ((b.toNat : Nat) : Int) = b := by omega
  have e4 : ((n.toNat : Nat) : Int) = n := by omega
  unfold In.pcs
  simp only [e1, k1, k2, k3, k4, k5, e2, e3, e4]
  rw [hc]
  simp [In.fail]
theorem raw_ok {i : In} {n : Int} (h : (i.raw n).1.e = 0) (hn : 0 ≤ n) : i.e = 0 ∧ i.l = (i.raw n).2 ++ (i.raw n).1.l ∧ ((i.raw n).2.length : Int) = n := by
  unfold In.raw at h ⊢
  split
  · rename_i hh
    rw [if_pos hh] at h
    simp only at h
    refine ⟨h, by simp, ?_⟩
    rcases hh with hh | hh
    · exact absurd h hh
    · simp; omega
  · rename_i hh
    rw [if_neg hh] at h
    split
    · rename_i h2
      rw [if_pos h2] at h
      simp at h
    · rename_i h2
      rw [if_neg h2] at h
      simp only at h
      refine ⟨by simp only [not_or] at hh; omega, by simp, ?_⟩
      rw [List.length_take]
      omega
theorem str_ok {i : In} {m : Int} (hm : 0 ≤ m) (h : (i.str m).1.e = 0) : i.e = 0 ∧ i.l = nb (i.str m).2.length ++ ((i.str m).2 ++ (i.str m).1.l) := by
  have hc := count_le i hm
  unfold In.str at h ⊢
  obtain ⟨a1, a2, a3⟩ := raw_ok h hc.1
  obtain ⟨b1, b2⟩ := In.count_ok a1
  refine ⟨b1, ?_⟩
  rw [b2, a2]
  have : ((i.count m).1.raw (i.count m).2).2.length = (i.count m).2.toNat := by omega
  rw [this]
theorem failed_ok {i : In} {x : Int} (h : (i.fail x).e = 0) : x = 0 ∧ i.e = 0 ∧ i.fail x = i := by
  unfold In.fail at h ⊢
  split
  · rename_i hh
    rw [if_pos hh] at h
    exact absurd h hh.2
  · rename_i hh
    rw [if_neg hh] at h
    exact ⟨by by_cases hx : x = 0; exact hx; exact absurd ⟨h, hx⟩ hh, h, rfl⟩
theorem pcs_ok {i : In} (h : i.pcs.1.e = 0) : i.e = 0 ∧ i.l = i.pcs.2.bytes ++ i.pcs.1.l ∧ i.pcs.2.wf := by
  unfold In.pcs at h ⊢
  simp only at h ⊢
  generalize ht : i.count 1099511627776 = T at h ⊢
  generalize hb : T.1.count 65536 = B at h ⊢
  generalize hn : B.1.num = H at h ⊢
  generalize hc : H.1.count 65536 = N at h ⊢
  generalize hs : N.1.str 100 = S at h ⊢
  by_cases h5 : S.1.e = 0
  · rw [if_pos h5] at h ⊢
    split at h
    · rename_i h6; exact absurd h h6
    · rename_i h6
      rw [if_neg h6]
      simp only at h ⊢
      obtain ⟨f1, f2, f3⟩ := failed_ok h
      rw [f3]
      obtain ⟨a1, a2⟩ := str_ok (i := N.1) (m := 100) (by decide) (by rw [hs]; exact h5)
      obtain ⟨b1, b2⟩ := In.count_ok (i := H.1) (m := 65536) (by rw [hc]; exact a1)
      obtain ⟨c1, c2⟩ := In.num_ok (i := B.1) (by rw [hn]; exact b1)
      obtain ⟨d1, d2⟩ := In.count_ok (i := T.1) (m := 65536) (by rw [hb]; exact c1)
      obtain ⟨e1, e2⟩ := In.count_ok (i := i) (m := 1099511627776) (by rw [ht]; exact d1)
      have hlt := In.num_lt B.1
      rw [hs] at a2
      rw [hc] at b2
      rw [hn] at c2 hlt
      rw [hb] at d2
      rw [ht] at e2
      refine ⟨e1, ?_, f1, hlt⟩
      rw [e2, d2, c2, b2, a2]
      simp [Pcs.bytes]
  · rw [if_neg h5, if_pos h5] at h
    exact absurd h h5
end Go.Proofs.YtgkhedmjkahclaaGreatDoor.TL
