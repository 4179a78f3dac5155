/- A table's bytes, and back: plain laws. -/
import Derived.Test.YtgkhedmjkahclaaGreatUWire
import Derived.Test.YtgkhedmjkahclaaGreatURead8
namespace Go.Proofs.YtgkhedmjkahclaaGreat.TL
open Go
set_option linter.unusedVariables false
set_option linter.unusedSimpArgs false

theorem In.field_ok {j : Nat} {i : In} {w : Un} (h : (i.field j w).1.e = 0) : i.e = 0 ∧ i.l = nb (zig i.int.2) ++ (i.field j w).1.l ∧ mayF j i.int.2 = true ∧ (i.field j w).2 = w.setAt j i.int.2 := by
  unfold In.field at h ⊢
  by_cases hm : mayF j i.int.2 = true
  · rw [if_pos hm] at h ⊢
    exact ⟨(In.int_ok h).1, (In.int_ok h).2, hm, rfl⟩
  · rw [if_neg hm] at h
    exact absurd h (In.fail_e (by decide))
theorem In.field_nb {j : Nat} {w : Un} {l : List UInt8} {x : Int} (hx : mayF j x = true) (h0 : -1000 ≤ x) (h1 : x ≤ 1000) : In.field j ⟨nb (zig x) ++ l, 0⟩ w = (⟨l, 0⟩, w.setAt j x) := by
  unfold In.field
  rw [In.int_nb l (by omega) (by omega), if_pos hx]

theorem In.flds5_ok {i : In} {w : Un} (h : (In.flds 5 0 i w).1.e = 0) : i.e = 0 ∧ i.l = nbs ((In.flds 5 0 i w).2.flds.map zig) ++ (In.flds 5 0 i w).1.l ∧ (In.flds 5 0 i w).2.fok := by
  simp only [In.flds] at h ⊢
  generalize hA : In.field 0 i w = A at h ⊢
  generalize hB : In.field (0 + 1) A.1 A.2 = B at h ⊢
  generalize hC : In.field (0 + 1 + 1) B.1 B.2 = C at h ⊢
  generalize hD : In.field (0 + 1 + 1 + 1) C.1 C.2 = D at h ⊢
  generalize hE : In.field (0 + 1 + 1 + 1 + 1) D.1 D.2 = E at h ⊢
  obtain ⟨e1, e2, e3, e4⟩ := In.field_ok (by rw [hE]; exact h)
  obtain ⟨d1, d2, d3, d4⟩ := In.field_ok (by rw [hD]; exact e1)
  obtain ⟨c1, c2, c3, c4⟩ := In.field_ok (by rw [hC]; exact d1)
  obtain ⟨b1, b2, b3, b4⟩ := In.field_ok (by rw [hB]; exact c1)
  obtain ⟨a1, a2, a3, a4⟩ := In.field_ok (by rw [hA]; exact b1)
  rw [hE] at e2 e4
  rw [hD] at d2 d4
  rw [hC] at c2 c4
  rw [hB] at b2 b4
  rw [hA] at a2 a4
  have hw : E.2 = ⟨w.id, i.int.2, A.1.int.2, B.1.int.2, C.1.int.2, D.1.int.2⟩ := by
    rw [e4, d4, c4, b4, a4]; rfl
  refine ⟨a1, ?_, ?_⟩
  · rw [a2, b2, c2, d2, e2, hw]
    simp [Un.flds, nbs]
  · rw [hw]
    exact ⟨a3, b3, c3, d3, e3⟩

theorem In.unit_ok {i : In} {last next : Int} (h : (i.unit last next).1.e = 0) : i.e = 0 ∧ i.l = nb ((i.unit last next).2.id - last).toNat ++ (nbs ((i.unit last next).2.flds.map zig) ++ (i.unit last next).1.l) ∧ (i.unit last next).2.fok ∧ last < (i.unit last next).2.id ∧ (i.unit last next).2.id < next := by
  have hid := unit_id i last next
  have hcr := i.count_rng 1099511627776 (by decide)
  unfold In.unit at h hid ⊢
  simp only at h hid ⊢
  by_cases hb : (In.flds 5 0 (i.count 1099511627776).1 ⟨last + (i.count 1099511627776).2, 0, 0, 0, 0, 0⟩).2.id = last ∨ next ≤ (In.flds 5 0 (i.count 1099511627776).1 ⟨last + (i.count 1099511627776).2, 0, 0, 0, 0, 0⟩).2.id
  · rw [if_pos hb] at h
    exact absurd h (In.fail_e (by decide))
  · rw [if_neg hb] at h ⊢
    obtain ⟨f1, f2, f3⟩ := In.flds5_ok h
    obtain ⟨n1, n2⟩ := In.count_ok f1
    refine ⟨n1, ?_, f3, by omega, by omega⟩
    rw [hid, n2, f2, show last + (i.count 1099511627776).2 - last = (i.count 1099511627776).2 by omega]

theorem In.flds5_nb {w : Un} {l : List UInt8} (hf : w.fok) : In.flds 5 0 ⟨nbs (w.flds.map zig) ++ l, 0⟩ ⟨w.id, 0, 0, 0, 0, 0⟩ = (⟨l, 0⟩, w) := by
  have hr := fok_rng hf
  have ra := hr w.a (by simp [Un.flds])
  have rb := hr w.b (by simp [Un.flds])
  have rc := hr w.c (by simp [Un.flds])
  have rd := hr w.d (by simp [Un.flds])
  have re := hr w.e (by simp [Un.flds])
  simp only [In.flds, Un.flds, nbs, List.map_cons, List.map_nil, List.flatten_cons, List.flatten_nil, List.append_nil, List.append_assoc]
  rw [In.field_nb (j := 0) hf.a ra.1 ra.2]
  simp only
  rw [In.field_nb (j := 0 + 1) hf.b rb.1 rb.2]
  simp only
  rw [In.field_nb (j := 0 + 1 + 1) hf.c rc.1 rc.2]
  simp only
  rw [In.field_nb (j := 0 + 1 + 1 + 1) hf.d rd.1 rd.2]
  simp only
  rw [In.field_nb (j := 0 + 1 + 1 + 1 + 1) hf.e re.1 re.2]
  rfl

theorem In.unit_nb {w : Un} {last next : Int} {l : List UInt8} (hf : w.fok) (h0 : last < w.id) (h1 : w.id < next) (h2 : 0 ≤ last) (h3 : next ≤ 1099511627776) :
    In.unit ⟨nb (w.id - last).toNat ++ (nbs (w.flds.map zig) ++ l), 0⟩ last next = (⟨l, 0⟩, w) := by
  have hc := In.count_nb (m := 1099511627776) (n := (w.id - last).toNat) (nbs (w.flds.map zig) ++ l) (by decide) (by omega)
  have hn : last + (((w.id - last).toNat : Nat) : Int) = w.id := by omega
  have hb : ¬ (w.id = last ∨ next ≤ w.id) := by omega
  unfold In.unit
  simp only [hc, hn, In.flds5_nb hf, hb, if_false]

theorem In.units_ok : ∀ (n : Nat) (i : In) (last next : Int) (l : List Un), (In.units n i last next l).1.e = 0 → ∃ us : List Un, (In.units n i last next l).2 = l ++ us ∧ us.length = n ∧ i.e = 0 ∧ i.l = ubs last us ++ (In.units n i last next l).1.l ∧
    (∀ w ∈ us, w.fok ∧ last < w.id ∧ w.id < next) ∧ us.Pairwise fun a b => a.id < b.id
  | 0, i, last, next, l, h => ⟨[], by simp [In.units], rfl, h, by simp [ubs, In.units], fun w hw => (by cases hw), List.Pairwise.nil⟩
  | n + 1, i, last, next, l, h => by
    unfold In.units at h ⊢
    by_cases he : i.e ≠ 0
    · rw [if_pos he] at h; exact absurd h he
    · rw [if_neg he] at h ⊢
      obtain ⟨us, g1, g2, g3, g4, g5, g6⟩ := In.units_ok n _ _ next _ h
      obtain ⟨u1, u2, u3, u4, u5⟩ := In.unit_ok g3
      refine ⟨(i.unit last next).2 :: us, by rw [g1]; simp, by simp [g2], u1, by rw [u2, g4]; simp [ubs], fun w hw => ?_, List.pairwise_cons.2 ⟨fun w hw => (g5 w hw).2.1, g6⟩⟩
      rcases List.mem_cons.1 hw with rfl | hw
      · exact ⟨u3, u4, u5⟩
      · have := g5 w hw
        exact ⟨this.1, by omega, this.2.2⟩

theorem In.units_nb (next : Int) (h3 : next ≤ 1099511627776) (l : List UInt8) : ∀ (us : List Un) (last : Int) (acc : List Un), (∀ w ∈ us, w.fok ∧ last < w.id ∧ w.id < next) → us.Pairwise (fun a b => a.id < b.id) → 0 ≤ last →
    In.units us.length ⟨ubs last us ++ l, 0⟩ last next acc = (⟨l, 0⟩, acc ++ us)
  | [], last, acc, _, _, _ => by simp [In.units, ubs]
  | w :: us, last, acc, h, hp, h0 => by
    obtain ⟨h1, h2⟩ := List.pairwise_cons.1 hp
    have hw := h w List.mem_cons_self
    have hu := In.unit_nb (l := ubs w.id us ++ l) hw.1 hw.2.1 hw.2.2 h0 h3
    simp only [List.length_cons, In.units, ubs, List.append_assoc, ne_eq, not_true_eq_false, if_false]
    rw [hu]
    simp only
    rw [In.units_nb next h3 l us w.id _ (fun v hv => ⟨(h v (List.mem_cons_of_mem _ hv)).1, h1 v hv, (h v (List.mem_cons_of_mem _ hv)).2.2⟩) h2 (by omega)]
    simp

theorem In.tab_ok {i : In} (h : i.tab.1.e = 0) : i.e = 0 ∧ i.tab.2.WF ∧ i.l = tabB i.tab.2 ++ i.tab.1.l := by
  have hc1 := i.count_rng 1099511627776 (by decide)
  have hc2 := (i.count 1099511627776).1.count_rng 64 (by decide)
  unfold In.tab at h ⊢
  simp only at h ⊢
  by_cases h4 : (i.count 1099511627776).2 < 1
  · rw [if_pos h4] at h
    exact absurd h (In.fail_e (by decide))
  · rw [if_neg h4] at h ⊢
    obtain ⟨us, g1, g2, g3, g4, g5, g6⟩ := In.units_ok _ _ _ _ _ h
    obtain ⟨n1, n2⟩ := In.count_ok g3
    obtain ⟨m1, m2⟩ := In.count_ok n1
    rw [g1]
    refine ⟨m1, ⟨by simpa using g6, fun w hw => ?_, by simp [g2]; omega, by simp only; omega, fun w hw => (g5 w (by simpa using hw)).1⟩, ?_⟩
    · have := g5 w (by simpa using hw)
      simp only; omega
    · rw [m2, n2, g4]
      simp [tabB, g2]

theorem In.tab_nb {t : Tab} (ht : t.WF) (l : List UInt8) : In.tab ⟨tabB t ++ l, 0⟩ = (⟨l, 0⟩, t) := by
  have hnx := ht.nx
  have hlen := ht.len
  unfold In.tab
  simp only [tabB, List.append_assoc]
  rw [In.count_nb _ (by decide) (by omega)]
  simp only
  rw [In.count_nb _ (by decide) (by omega)]
  simp only [Int.toNat_natCast]
  rw [In.units_nb _ (by omega) l t.l 0 [] (fun w hw => ⟨ht.fo w hw, by have := ht.lt w hw; omega, by have := ht.lt w hw; omega⟩) ht.asc (by omega)]
  rw [if_neg (by omega)]
  simp [Int.toNat_of_nonneg (show 0 ≤ t.next by omega)]
end Go.Proofs.YtgkhedmjkahclaaGreat.TL
