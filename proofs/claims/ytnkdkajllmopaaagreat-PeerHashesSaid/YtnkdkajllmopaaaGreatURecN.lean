/- A change's bytes, and back; a roster's bytes, and back: plain laws. -/
/- Records: what is read is what is written: plain laws. -/
/- Records' bytes, and back; the law's Fit may be: plain laws. -/
/- Records, told. -/
import Derived.Test.YtnkdkajllmopaaaGreatURos
import Derived.Test.YtnkdkajllmopaaaGreatUWire
import Derived.Test.YtnkdkajllmopaaaGreatURec
namespace Go.Proofs.YtnkdkajllmopaaaGreat.TL
open Go
set_option linter.unusedVariables false
set_option linter.unusedSimpArgs false

theorem vot_nb (rest : List UInt8) : ∀ (v pre : List Int), (∀ n ∈ v, 0 ≤ n ∧ n ≤ 31) → In.vot v.length ⟨nbs (v.map Int.toNat) ++ rest, 0⟩ pre = (⟨rest, 0⟩, pre ++ v)
  | [], pre, _ => by simp [In.vot]
  | n :: v, pre, h => by
    have hn := h n List.mem_cons_self
    have e1 : nbs ((n :: v).map Int.toNat) ++ rest = nb n.toNat ++ (nbs (v.map Int.toNat) ++ rest) := by simp [nbs]
    have e2 : ((n.toNat : Nat) : Int) = n := by omega
    have hc := In.count_nb (nbs (v.map Int.toNat) ++ rest) (n := n.toNat) (m := 31) (by decide) (by omega)
    rw [List.length_cons, In.vot, if_neg (by simp), e1, hc, e2, vot_nb rest v (pre ++ [n]) fun m hm => h m (List.mem_cons_of_mem _ hm)]
    simp
theorem okAt_rise {r : Ros} {no : Int} {l : List Int} (h : ∀ i, i < l.length → r.okAt no l i = true) : ∀ (i : Nat) (hi : i < l.length), (i : Int) ≤ l[i] ∧ l[i] < 32
  | 0, hi => by
    have h0 := h 0 hi
    simp only [Ros.okAt, Ros.has, Bool.and_eq_true, decide_eq_true_eq] at h0
    have hg : l.getD 0 0 = l[0] := by simp [hi]
    rw [hg] at h0
    exact ⟨by omega, h0.1.2.1⟩
  | i + 1, hi => by
    have h0 := h (i + 1) hi
    have ih := okAt_rise h i (by omega)
    have hg : l.getD (i + 1) 0 = l[i + 1] := by simp [hi]
    have hg2 : l.getD (i + 1 - 1) 0 = l[i] := by simp [show i < l.length by omega]
    simp only [Ros.okAt, Ros.has, hg, hg2, Bool.and_eq_true, Bool.or_eq_true, decide_eq_true_eq] at h0
    have h3 : l[i] < l[i + 1] := by
      rcases h0.2.2 with h4 | h4
      · omega
      · exact h4
    exact ⟨by omega, h0.1.2.1⟩
theorem chk_v {r : Ros} {c : Chg} (h : r.chk c = 0) : (1 ≤ c.k ∧ c.k ≤ 3) ∧ (∀ n ∈ c.v, 0 ≤ n ∧ n ≤ 31) ∧ c.v.length ≤ 32 := by
  unfold Ros.chk at h
  split at h
  · cases h
  rename_i h1
  split at h
  · cases h
  rename_i h2
  refine ⟨by omega, ?_⟩
  by_cases hk : c.k = 3
  · split at h
    · omega
    split at h
    · cases h
    split at h
    · cases h
    rename_i hm
    have hmm : r.most c.p c.v = true := by
      cases hx : r.most c.p c.v with
      | true => rfl
      | false => exact absurd ⟨hk, hx⟩ hm
    unfold Ros.most at hmm
    simp only [Bool.and_eq_true, List.all_eq_true, List.mem_range] at hmm
    have hr := okAt_rise hmm.1
    refine ⟨fun n hn => ?_, ?_⟩
    · obtain ⟨i, hi, rfl⟩ := List.getElem_of_mem hn
      have := hr i hi
      omega
    · rcases Nat.lt_or_ge 32 c.v.length with h5 | h5
      · have := hr 32 h5
        omega
      · exact h5
  · have : c.v = [] := List.length_eq_zero_iff.1 (by omega)
    rw [this]
    exact ⟨fun n hn => (by cases hn), Nat.zero_le _⟩
theorem chk_small {r : Ros} {c : Chg} (h : r.chk c = 0) : c.small := by
  have h1 := chk_v h
  have h2 := chk_rng h
  exact ⟨by omega, by omega, fun n hn => by have := h1.2.1 n hn; omega, by omega⟩
theorem chg_nb {r : Ros} {c : Chg} (h : r.chk c = 0) : In.chg ⟨c.bytes, 0⟩ = (⟨[], 0⟩, c) := by
  obtain ⟨h1, h2, h3⟩ := chk_v h
  have h4 := chk_rng h
  have e1 : c.bytes = nb c.k.toNat ++ (nb c.p.toNat ++ (nb c.v.length ++ (nbs (c.v.map Int.toNat) ++ []))) := by simp [Chg.bytes, nbs]
  have k1 := In.count_nb (nb c.p.toNat ++ (nb c.v.length ++ (nbs (c.v.map Int.toNat) ++ []))) (n := c.k.toNat) (m := 3) (by decide) (by omega)
  have k2 := In.count_nb (nb c.v.length ++ (nbs (c.v.map Int.toNat) ++ [])) (n := c.p.toNat) (m := 31) (by decide) (by omega)
  have k3 := In.count_nb (nbs (c.v.map Int.toNat) ++ []) (n := c.v.length) (m := 32) (by decide) (by omega)
  have k4 := vot_nb [] c.v [] h2
  have e2 : ((c.k.toNat : Nat) : Int) = c.k := by omega
  have e3 : ((c.p.toNat : Nat) : Int) = c.p := by omega
  unfold In.chg
  simp only [e1, k1, k2, k3, Int.toNat_natCast, k4, e2, e3]
  simp
theorem ros_nb {r : Ros} (hs : r.s < 2 ^ 32) (he : 0 ≤ r.e) (he2 : r.e ≤ 1099511627776) : In.ros ⟨r.bytes, 0⟩ = (⟨[], 0⟩, r) := by
  have e1 : r.bytes = nb r.s ++ (nb r.e.toNat ++ []) := by simp [Ros.bytes]
  have k1 := In.count_nb (nb r.e.toNat ++ []) (n := r.s) (m := 4294967295) (by decide) (by omega)
  have k2 := In.count_nb [] (n := r.e.toNat) (m := 1099511627776) (by decide) (by omega)
  have e2 : ((r.e.toNat : Nat) : Int) = r.e := by omega
  unfold In.ros
  simp only [e1, k1, k2, e2]
  simp

end Go.Proofs.YtnkdkajllmopaaaGreat.TL
namespace Go.Proofs.YtnkdkajllmopaaaGreat.TL
open Go
set_option linter.unusedVariables false
set_option linter.unusedSimpArgs false

theorem fail_ok {i : In} {x : Int} (h : (i.fail x).e = 0) : i.e = 0 ∧ x = 0 ∧ i.fail x = i := by
  unfold In.fail at h ⊢
  split
  · rename_i hh; rw [if_pos hh] at h; exact absurd h hh.2
  · rename_i hh
    rw [if_neg hh] at h
    refine ⟨h, ?_, rfl⟩
    rcases Int.lt_trichotomy x 0 with h1 | h1 | h1
    · exact absurd ⟨h, by omega⟩ hh
    · exact h1
    · exact absurd ⟨h, by omega⟩ hh
theorem unzig_rng {n : Nat} (h : n < 2 ^ 64) : i64ok (unzig n) := by
  unfold unzig i64ok
  split <;> omega
theorem int_i64 (i : In) : i64ok i.int.2 := unzig_rng i.num_lt

theorem vot_ok : ∀ (n : Nat) (i : In) (l : List Int), (In.vot n i l).1.e = 0 → i.e = 0 ∧ ∃ v, (In.vot n i l).2 = l ++ v ∧ v.length = n ∧ i.l = nbs (v.map Int.toNat) ++ (In.vot n i l).1.l ∧ ∀ x ∈ v, 0 ≤ x ∧ x ≤ 31
  | 0, i, l, h => ⟨h, [], by simp [In.vot]⟩
  | n + 1, i, l, h => by
    unfold In.vot at h ⊢
    split at h
    · rename_i hh; exact absurd h hh
    · rename_i hh
      rw [if_neg hh]
      obtain ⟨h1, v, h2, h3, h4, h5⟩ := vot_ok n _ _ h
      obtain ⟨k1, k2⟩ := In.count_ok h1
      have hr := i.count_rng' 31 (by decide)
      refine ⟨k1, (i.count 31).2 :: v, by rw [h2]; simp, by simp [h3], ?_, fun x hx => ?_⟩
      · rw [k2, h4]; simp [nbs]
      · rcases List.mem_cons.1 hx with rfl | hx
        · exact hr
        · exact h5 x hx
structure Chg.rd (c : Chg) : Prop where
  k : 0 ≤ c.k ∧ c.k ≤ 3
  p : 0 ≤ c.p ∧ c.p ≤ 31
  v : ∀ x ∈ c.v, 0 ≤ x ∧ x ≤ 31
  l : c.v.length ≤ 32
theorem Chg.rd.small {c : Chg} (h : c.rd) : c.small := ⟨by have := h.k; omega, by have := h.p; omega, fun n hn => by have := h.v n hn; omega, by have := h.l; omega⟩
theorem chg_ok {i : In} (h : i.chg.1.e = 0) : i.e = 0 ∧ i.l = i.chg.2.bytes ++ i.chg.1.l ∧ i.chg.2.rd := by
  unfold In.chg at h ⊢
  simp only at h ⊢
  split at h
  · rename_i hh; exact absurd h hh
  · rename_i hh
    rw [if_neg hh]
    obtain ⟨h1, v, h2, h3, h4, h5⟩ := vot_ok _ _ _ h
    obtain ⟨a1, a2⟩ := In.count_ok h1
    obtain ⟨b1, b2⟩ := In.count_ok a1
    obtain ⟨c1, c2⟩ := In.count_ok b1
    have r1 := i.count_rng' 3 (by decide)
    have r2 := (i.count 3).1.count_rng' 31 (by decide)
    have r3 := ((i.count 3).1.count 31).1.count_rng' 32 (by decide)
    simp only [List.nil_append] at h2
    refine ⟨c1, ?_, ⟨r1, r2, by rw [h2]; exact h5, by rw [h2]; simp only; omega⟩⟩
    rw [c2, b2, a2, h4, h2]
    have : (((i.count 3).1.count 31).1.count 32).2.toNat = v.length := h3.symm
    simp [Chg.bytes, nbs, this]
theorem chgs_ok : ∀ (n : Nat) (i : In) (l : List Chg), (In.chgs n i l).1.e = 0 → i.e = 0 ∧ ∃ v, (In.chgs n i l).2 = l ++ v ∧ v.length = n ∧ i.l = chgB v ++ (In.chgs n i l).1.l ∧ ∀ x ∈ v, x.rd
  | 0, i, l, h => ⟨h, [], by simp [In.chgs, chgB]⟩
  | n + 1, i, l, h => by
    unfold In.chgs at h ⊢
    split at h
    · rename_i hh; exact absurd h hh
    · rename_i hh
      rw [if_neg hh]
      obtain ⟨h1, v, h2, h3, h4, h5⟩ := chgs_ok n _ _ h
      obtain ⟨k1, k2, k3⟩ := chg_ok h1
      refine ⟨k1, i.chg.2 :: v, by rw [h2]; simp, by simp [h3], ?_, fun x hx => ?_⟩
      · rw [k2, h4]; simp [chgB]
      · rcases List.mem_cons.1 hx with rfl | hx
        · exact k3
        · exact h5 x hx
theorem ord_ok {i : In} (h : i.ord.1.e = 0) : i.e = 0 ∧ i.l = i.ord.2.ob ++ i.ord.1.l ∧ i.ord.2.ok := by
  unfold In.ord at h ⊢
  simp only at h ⊢
  obtain ⟨f1, f2, f3⟩ := fail_ok h
  rw [f3]
  obtain ⟨a1, a2⟩ := In.int_ok f1
  obtain ⟨b1, b2⟩ := In.int_ok a1
  obtain ⟨c1, c2⟩ := In.count_ok b1
  obtain ⟨d1, d2⟩ := In.count_ok c1
  have r1 := i.count_rng' 4 (by decide)
  have r2 := (i.count 4).1.count_rng' 1099511627776 (by decide)
  have eu : IntKind.u64.wrap ((i.count 4).1.count 1099511627776).2 = ((i.count 4).1.count 1099511627776).2 := u64_id (by omega) (by omega)
  refine ⟨d1, ?_, ⟨⟨by simp only; omega, by simp only; omega⟩, ⟨by simp only; omega, by simp only; omega⟩, int_i64 _, int_i64 _⟩⟩
  rw [d2, c2, b2, a2]
  simp [Ord.ob, eu]
theorem ords_ok : ∀ (n : Nat) (i : In) (l : List Ord), (In.ords n i l).1.e = 0 → i.e = 0 ∧ ∃ v, (In.ords n i l).2 = l ++ v ∧ v.length = n ∧ i.l = obs v ++ (In.ords n i l).1.l ∧ ∀ x ∈ v, x.ok
  | 0, i, l, h => ⟨h, [], by simp [In.ords, obs]⟩
  | n + 1, i, l, h => by
    unfold In.ords at h ⊢
    split at h
    · rename_i hh; exact absurd h hh
    · rename_i hh
      rw [if_neg hh]
      obtain ⟨h1, v, h2, h3, h4, h5⟩ := ords_ok n _ _ h
      obtain ⟨k1, k2, k3⟩ := ord_ok h1
      refine ⟨k1, i.ord.2 :: v, by rw [h2]; simp, by simp [h3], ?_, fun x hx => ?_⟩
      · rw [k2, h4]; simp [obs]
      · rcases List.mem_cons.1 hx with rfl | hx
        · exact k3
        · exact h5 x hx
theorem batch_ok {i : In} (h : i.batch.1.e = 0) : i.e = 0 ∧ i.l = batchB i.batch.2 ++ i.batch.1.l ∧ (∀ o ∈ i.batch.2, o.ok) ∧ i.batch.2.length ≤ 8 := by
  unfold In.batch at h ⊢
  simp only at h ⊢
  rw [if_neg (by simp [h])]
  obtain ⟨h1, v, h2, h3, h4, h5⟩ := ords_ok _ _ _ h
  obtain ⟨a1, a2⟩ := In.count_ok h1
  have r1 := i.count_rng' 8 (by decide)
  simp only [List.nil_append] at h2
  refine ⟨a1, ?_, by rw [h2]; exact h5, by rw [h2]; omega⟩
  rw [a2, h4, h2]
  have : (i.count 8).2.toNat = v.length := h3.symm
  simp [batchB, this]
structure Ply.rd (q : Ply) : Prop where
  p : 0 ≤ q.p ∧ q.p ≤ 31
  b : ∀ o ∈ q.b, o.ok
  l : q.b.length ≤ 8
theorem Ply.rd.ok {q : Ply} (h : q.rd) : q.ok := ⟨by have := h.p; omega, h.b, by have := h.l; omega⟩
theorem ply_ok {i : In} (h : i.ply.1.e = 0) : i.e = 0 ∧ i.l = i.ply.2.bytes ++ i.ply.1.l ∧ i.ply.2.rd := by
  unfold In.ply at h ⊢
  simp only at h ⊢
  obtain ⟨h1, h2, h3, h4⟩ := batch_ok h
  obtain ⟨a1, a2⟩ := In.count_ok h1
  have r1 := i.count_rng' 31 (by decide)
  refine ⟨a1, ?_, ⟨r1, h3, h4⟩⟩
  rw [a2, h2]
  simp [Ply.bytes]
theorem plys_ok : ∀ (n : Nat) (i : In) (l : List Ply), (In.plys n i l).1.e = 0 → i.e = 0 ∧ ∃ v, (In.plys n i l).2 = l ++ v ∧ v.length = n ∧ i.l = plyB v ++ (In.plys n i l).1.l ∧ ∀ x ∈ v, x.rd
  | 0, i, l, h => ⟨h, [], by simp [In.plys, plyB]⟩
  | n + 1, i, l, h => by
    unfold In.plys at h ⊢
    split at h
    · rename_i hh; exact absurd h hh
    · rename_i hh
      rw [if_neg hh]
      obtain ⟨h1, v, h2, h3, h4, h5⟩ := plys_ok n _ _ h
      obtain ⟨k1, k2, k3⟩ := ply_ok h1
      refine ⟨k1, i.ply.2 :: v, by rw [h2]; simp, by simp [h3], ?_, fun x hx => ?_⟩
      · rw [k2, h4]; simp [plyB]
      · rcases List.mem_cons.1 hx with rfl | hx
        · exact k3
        · exact h5 x hx
structure Rec.rd (r : Rec) : Prop where
  t : 0 ≤ r.t ∧ r.t ≤ 1099511627776
  c : ∀ x ∈ r.c, x.rd
  cl : r.c.length ≤ 8
  pt : 0 ≤ r.pt ∧ r.pt ≤ 64
  pd : 0 ≤ r.pd ∧ r.pd ≤ 6
  l : ∀ x ∈ r.l, x.rd
  ll : r.l.length ≤ 32
theorem Rec.rd.ok {r : Rec} (h : r.rd) : r.ok := ⟨by have := h.t; omega, by have := h.pt; omega, by have := h.pd; omega, fun c hc => (h.c c hc).small, by have := h.cl; omega, fun c hc => (h.l c hc).ok, by have := h.ll; omega⟩
theorem rcd_ok {i : In} (h : i.rcd.1.e = 0) : i.e = 0 ∧ i.l = i.rcd.2.bytes ++ i.rcd.1.l ∧ i.rcd.2.rd := by
  unfold In.rcd at h ⊢
  simp only at h ⊢
  split at h
  · rename_i hh; exact absurd h hh
  rename_i hh
  rw [if_neg hh]
  obtain ⟨h1, v, h2, h3, h4, h5⟩ := plys_ok _ _ _ h
  obtain ⟨a1, a2⟩ := In.count_ok h1
  obtain ⟨b1, b2⟩ := In.count_ok a1
  obtain ⟨c1, c2⟩ := In.count_ok b1
  obtain ⟨d1, w, d2, d3, d4, d5⟩ := chgs_ok _ _ _ c1
  obtain ⟨e1, e2⟩ := In.count_ok d1
  obtain ⟨f1, f2⟩ := In.count_ok e1
  have r1 := i.count_rng' 1099511627776 (by decide)
  have r2 := (i.count 1099511627776).1.count_rng' 8 (by decide)
  generalize hC : In.chgs ((i.count 1099511627776).1.count 8).2.toNat ((i.count 1099511627776).1.count 8).1 [] = C at *
  have r3 := C.1.count_rng' 64 (by decide)
  have r4 := (C.1.count 64).1.count_rng' 6 (by decide)
  have r5 := ((C.1.count 64).1.count 6).1.count_rng' 32 (by decide)
  simp only [List.nil_append] at h2 d2
  refine ⟨f1, ?_, ⟨r1, by rw [d2]; exact d5, by rw [d2]; simp only; omega, r3, r4, by rw [h2]; exact h5, by rw [h2]; simp only; omega⟩⟩
  rw [f2, e2, d4, c2, b2, a2, h4, h2, d2]
  have k1 : ((i.count 1099511627776).1.count 8).2.toNat = w.length := d3.symm
  have k2 : (((C.1.count 64).1.count 6).1.count 32).2.toNat = v.length := h3.symm
  simp [Rec.bytes, k1, k2]
end Go.Proofs.YtnkdkajllmopaaaGreat.TL
namespace Go.Proofs.YtnkdkajllmopaaaGreat.TL
open Go
set_option linter.unusedVariables false
set_option linter.unusedSimpArgs false

theorem chgr_nb (rest : List UInt8) {c : Chg} (h : c.rd) : In.chg ⟨c.bytes ++ rest, 0⟩ = (⟨rest, 0⟩, c) := by
  obtain ⟨h1, h2, h3, h4⟩ := h
  have e1 : c.bytes ++ rest = nb c.k.toNat ++ (nb c.p.toNat ++ (nb c.v.length ++ (nbs (c.v.map Int.toNat) ++ rest))) := by simp [Chg.bytes, nbs]
  have k1 := In.count_nb (nb c.p.toNat ++ (nb c.v.length ++ (nbs (c.v.map Int.toNat) ++ rest))) (n := c.k.toNat) (m := 3) (by decide) (by omega)
  have k2 := In.count_nb (nb c.v.length ++ (nbs (c.v.map Int.toNat) ++ rest)) (n := c.p.toNat) (m := 31) (by decide) (by omega)
  have k3 := In.count_nb (nbs (c.v.map Int.toNat) ++ rest) (n := c.v.length) (m := 32) (by decide) (by omega)
  have k4 := vot_nb rest c.v [] h3
  have e2 : ((c.k.toNat : Nat) : Int) = c.k := by omega
  have e3 : ((c.p.toNat : Nat) : Int) = c.p := by omega
  unfold In.chg
  simp only [e1, k1, k2, k3, Int.toNat_natCast, k4, e2, e3]
  simp
theorem chgs_nb (rest : List UInt8) : ∀ (v pre : List Chg), (∀ c ∈ v, c.rd) → In.chgs v.length ⟨chgB v ++ rest, 0⟩ pre = (⟨rest, 0⟩, pre ++ v)
  | [], pre, _ => by simp [In.chgs, chgB]
  | c :: v, pre, h => by
    have e1 : chgB (c :: v) ++ rest = c.bytes ++ (chgB v ++ rest) := by simp [chgB]
    rw [List.length_cons, In.chgs, if_neg (by simp), e1, chgr_nb _ (h c List.mem_cons_self), chgs_nb rest v (pre ++ [c]) fun m hm => h m (List.mem_cons_of_mem _ hm)]
    simp
theorem chk_ku {o : Ord} (h : o.chk = 0) : (1 ≤ o.k ∧ o.k ≤ 4) ∧ (0 ≤ o.u ∧ o.u < 1099511627776) := by
  unfold Ord.chk at h
  split at h
  · cases h
  split at h
  · cases h
  omega
theorem ord_nb (rest : List UInt8) {o : Ord} (h : o.chk = 0) (hok : o.ok) : In.ord ⟨o.ob ++ rest, 0⟩ = (⟨rest, 0⟩, o) := by
  obtain ⟨h1, h2⟩ := chk_ku h
  obtain ⟨_, _, h3, h4⟩ := hok
  have eu : IntKind.u64.wrap o.u = o.u := u64_id (by omega) (by omega)
  have e1 : o.ob ++ rest = nb o.k.toNat ++ (nb o.u.toNat ++ (nb (zig o.a) ++ (nb (zig o.b) ++ rest))) := by simp [Ord.ob, eu]
  have k1 := In.count_nb (nb o.u.toNat ++ (nb (zig o.a) ++ (nb (zig o.b) ++ rest))) (n := o.k.toNat) (m := 4) (by decide) (by omega)
  have k2 := In.count_nb (nb (zig o.a) ++ (nb (zig o.b) ++ rest)) (n := o.u.toNat) (m := 1099511627776) (by decide) (by omega)
  have k3 := In.int_nb (nb (zig o.b) ++ rest) h3.1 h3.2
  have k4 := In.int_nb rest h4.1 h4.2
  have e2 : ((o.k.toNat : Nat) : Int) = o.k := by omega
  have e3 : ((o.u.toNat : Nat) : Int) = o.u := by omega
  unfold In.ord
  simp only [e1, k1, k2, k3, k4, e2, e3]
  rw [show (Ord.mk o.k o.u o.a o.b).chk = 0 from h]
  simp [In.fail]
theorem ords_nb (rest : List UInt8) : ∀ (v pre : List Ord), (∀ o ∈ v, o.chk = 0 ∧ o.ok) → In.ords v.length ⟨obs v ++ rest, 0⟩ pre = (⟨rest, 0⟩, pre ++ v)
  | [], pre, _ => by simp [In.ords, obs]
  | c :: v, pre, h => by
    have e1 : obs (c :: v) ++ rest = c.ob ++ (obs v ++ rest) := by simp [obs]
    rw [List.length_cons, In.ords, if_neg (by simp), e1, ord_nb _ (h c List.mem_cons_self).1 (h c List.mem_cons_self).2, ords_nb rest v (pre ++ [c]) fun m hm => h m (List.mem_cons_of_mem _ hm)]
    simp
theorem batch_nb (rest : List UInt8) {v : List Ord} (h : ∀ o ∈ v, o.chk = 0 ∧ o.ok) (hl : v.length ≤ 8) : In.batch ⟨batchB v ++ rest, 0⟩ = (⟨rest, 0⟩, v) := by
  have e1 : batchB v ++ rest = nb v.length ++ (obs v ++ rest) := by simp [batchB]
  have k1 := In.count_nb (obs v ++ rest) (n := v.length) (m := 8) (by decide) (by omega)
  have k2 := ords_nb rest v [] h
  unfold In.batch
  simp only [e1, k1, Int.toNat_natCast, k2]
  simp
/-- A play that may be read. -/
structure Ply.wf (q : Ply) : Prop where
  p : 0 ≤ q.p ∧ q.p ≤ 31
  b : ∀ o ∈ q.b, o.chk = 0 ∧ o.ok
  l : q.b.length ≤ 8
theorem ply_nb (rest : List UInt8) {q : Ply} (h : q.wf) : In.ply ⟨q.bytes ++ rest, 0⟩ = (⟨rest, 0⟩, q) := by
  obtain ⟨h1, h2, h3⟩ := h
  have e1 : q.bytes ++ rest = nb q.p.toNat ++ (batchB q.b ++ rest) := by simp [Ply.bytes]
  have k1 := In.count_nb (batchB q.b ++ rest) (n := q.p.toNat) (m := 31) (by decide) (by omega)
  have e2 : ((q.p.toNat : Nat) : Int) = q.p := by omega
  unfold In.ply
  simp only [e1, k1, batch_nb rest h2 h3, e2]
theorem plys_nb (rest : List UInt8) : ∀ (v pre : List Ply), (∀ c ∈ v, c.wf) → In.plys v.length ⟨plyB v ++ rest, 0⟩ pre = (⟨rest, 0⟩, pre ++ v)
  | [], pre, _ => by simp [In.plys, plyB]
  | c :: v, pre, h => by
    have e1 : plyB (c :: v) ++ rest = c.bytes ++ (plyB v ++ rest) := by simp [plyB]
    rw [List.length_cons, In.plys, if_neg (by simp), e1, ply_nb _ (h c List.mem_cons_self), plys_nb rest v (pre ++ [c]) fun m hm => h m (List.mem_cons_of_mem _ hm)]
    simp
structure Rec.wf (r : Rec) : Prop where
  t : 0 ≤ r.t ∧ r.t ≤ 1099511627776
  c : ∀ x ∈ r.c, x.rd
  cl : r.c.length ≤ 8
  pt : 0 ≤ r.pt ∧ r.pt ≤ 64
  pd : 0 ≤ r.pd ∧ r.pd ≤ 6
  l : ∀ x ∈ r.l, x.wf
  ll : r.l.length ≤ 32
theorem Rec.wf.rd {r : Rec} (h : r.wf) : r.rd := ⟨h.t, h.c, h.cl, h.pt, h.pd, fun x hx => ⟨(h.l x hx).p, fun o ho => ((h.l x hx).b o ho).2, (h.l x hx).l⟩, h.ll⟩
theorem rcd_nb (rest : List UInt8) {r : Rec} (h : r.wf) : In.rcd ⟨r.bytes ++ rest, 0⟩ = (⟨rest, 0⟩, r) := by
  obtain ⟨h1, h2, h3, h4, h5, h6, h7⟩ := h
  have e1 : r.bytes ++ rest = nb r.t.toNat ++ (nb r.c.length ++ (chgB r.c ++ (nb r.pt.toNat ++ (nb r.pd.toNat ++ (nb r.l.length ++ (plyB r.l ++ rest)))))) := by simp [Rec.bytes]
  have k1 := In.count_nb (nb r.c.length ++ (chgB r.c ++ (nb r.pt.toNat ++ (nb r.pd.toNat ++ (nb r.l.length ++ (plyB r.l ++ rest)))))) (n := r.t.toNat) (m := 1099511627776) (by decide) (by omega)
  have k2 := In.count_nb (chgB r.c ++ (nb r.pt.toNat ++ (nb r.pd.toNat ++ (nb r.l.length ++ (plyB r.l ++ rest))))) (n := r.c.length) (m := 8) (by decide) (by omega)
  have k3 := chgs_nb (nb r.pt.toNat ++ (nb r.pd.toNat ++ (nb r.l.length ++ (plyB r.l ++ rest)))) r.c [] h2
  have k4 := In.count_nb (nb r.pd.toNat ++ (nb r.l.length ++ (plyB r.l ++ rest))) (n := r.pt.toNat) (m := 64) (by decide) (by omega)
  have k5 := In.count_nb (nb r.l.length ++ (plyB r.l ++ rest)) (n := r.pd.toNat) (m := 6) (by decide) (by omega)
  have k6 := In.count_nb (plyB r.l ++ rest) (n := r.l.length) (m := 32) (by decide) (by omega)
  have k7 := plys_nb rest r.l [] h6
  have e2 : ((r.t.toNat : Nat) : Int) = r.t := by omega
  have e3 : ((r.pt.toNat : Nat) : Int) = r.pt := by omega
  have e4 : ((r.pd.toNat : Nat) : Int) = r.pd := by omega
  unfold In.rcd
  simp only [e1, k1, k2, Int.toNat_natCast, k3, k4, k5, k6, k7, e2, e3, e4]
  simp
theorem parse_nb {r : Rec} (h : r.wf) : rcParse r.bytes = (r, 0) := by
  have := rcd_nb [] h
  rw [List.append_nil] at this
  unfold rcParse
  rw [this]
  simp [In.fin]
/-- Like bytes, like records. -/
theorem bytes_inj {r x : Rec} (hr : r.wf) (hx : x.wf) (h : r.bytes = x.bytes) : r = x := by
  have h1 := parse_nb hr
  have h2 := parse_nb hx
  rw [h, h2] at h1
  exact (congrArg Prod.fst h1).symm

theorem goW_snoc {was : Ros} : ∀ (l : List Chg) (x y : Ros) (c : Chg), was.goW x l = (y, 0) → y.chk c = 0 → was.goW x (l ++ [c]) = (y.app c, 0)
  | [], x, y, c, h, hc => by
    simp only [Ros.goW, Prod.mk.injEq] at h
    obtain ⟨rfl, _⟩ := h
    rw [List.nil_append, Ros.goW, if_neg (by simp [hc])]
    rfl
  | d :: l, x, y, c, h, hc => by
    rw [Ros.goW] at h
    rw [List.cons_append, Ros.goW]
    split at h
    · rename_i hd
      simp only [Prod.mk.injEq] at h
      exact absurd h.2 hd
    · rename_i hd
      rw [if_neg hd]
      exact goW_snoc l _ y c h hc
structure FitI (was : Ros) (a : List Chg × Ros) : Prop where
  go : was.goW was a.1 = (a.2, 0)
  l : a.1.length ≤ 8
  rd : ∀ c ∈ a.1, c.rd
  s : a.2.s < 2 ^ 32
theorem chk_rd {r : Ros} {c : Chg} (h : r.chk c = 0) : c.rd := by
  have h1 := chk_v h
  have h2 := chk_rng h
  exact ⟨by omega, by omega, h1.2.1, h1.2.2⟩
theorem fitS_I {was : Ros} {a : List Chg × Ros} (h : FitI was a) (c : Chg) : FitI was (fitS a c) := by
  unfold fitS
  split
  · rename_i hh
    refine ⟨goW_snoc _ _ _ _ h.go hh.2, by simp; omega, fun x hx => ?_, app_lt h.s hh.2⟩
    rcases List.mem_append.1 hx with hx | hx
    · exact h.rd x hx
    · simp at hx; subst hx; exact chk_rd hh.2
  · exact h
theorem fitL_I {was : Ros} (hs : was.s < 2 ^ 32) (l : List Chg) : FitI was (fitL was l) := by
  have key : ∀ (l : List Chg) (a : List Chg × Ros), FitI was a → FitI was (l.foldl fitS a) := fun l => by
    induction l with
    | nil => intro a h; exact h
    | cons c l ih => intro a h; exact ih _ (fitS_I h c)
  exact key l _ ⟨rfl, by simp, by simp, hs⟩
theorem all_rng {r : Ros} : ∀ p ∈ r.all 32, 0 ≤ p ∧ p ≤ 31 := fun p hp => by
  have := mem_all.1 hp
  simp only [Ros.has, Bool.and_eq_true, decide_eq_true_eq] at this
  omega
theorem all_rise {r : Ros} {i j : Nat} (hj : j < (r.all 32).length) (hij : i < j) : (r.all 32)[i] < (r.all 32)[j] := by
  have hp : (r.all 32).Pairwise (· < ·) := by
    unfold Ros.all
    rw [List.pairwise_map]
    refine List.Pairwise.filter _ ?_
    refine List.Pairwise.imp (R := (· < ·)) ?_ List.pairwise_lt_range
    intro a b hab
    exact Int.ofNat_lt.2 hab
  exact List.pairwise_iff_getElem.1 hp i j (by omega) hj hij
theorem chkAll_0 : ∀ {l : List Ord}, (∀ o ∈ l, o.chk = 0) → chkAll l = 0
  | [], _ => rfl
  | o :: l, h => by
    have h1 := h o List.mem_cons_self
    rw [chkAll, if_neg (by simp [h1])]
    exact chkAll_0 fun m hm => h m (List.mem_cons_of_mem _ hm)
theorem tidy_chk (l : List Ord) : ∀ o ∈ tidy l, o.chk = 0 ∧ o.ok := fun o ho => by
  obtain ⟨d, _, rfl⟩ := List.mem_map.1 ho
  exact ⟨tidy1_chk d, tidy1_ok d⟩
theorem tidy_len8 (l : List Ord) : (tidy l).length ≤ 8 := by rw [tidy_length]; omega
theorem batchChk_0 {l : List Ord} (h : ∀ o ∈ l, o.chk = 0) (hl : l.length ≤ 8) : batchChk l = 0 := by
  unfold batchChk
  rw [if_neg (by omega)]
  exact chkAll_0 h
theorem fitP_get {A : List Int} {L : List (List Ord)} {k i : Nat} (h : i < k) : plyAt (fitP A L k) i = fitP1 A L i := by
  unfold plyAt fitP
  rw [List.getElem?_map, List.getElem?_range h]
  rfl
theorem pls_fitP (A : List Int) (L : List (List Ord)) : pls (fitP A L A.length) = A := by
  refine List.ext_getElem (by simp) fun i h1 h2 => ?_
  simp [pls, fitP, fitP1, h2]
theorem wgo_0 {l : List Ply} : ∀ (n i : Nat), (∀ j, j < n → plyChk l (i + j) = 0) → wgo l n i = 0
  | 0, _, _ => rfl
  | n + 1, i, h => by
    have h0 := h 0 (by omega)
    rw [Nat.add_zero] at h0
    rw [wgo, if_neg (by simp [h0])]
    exact wgo_0 n (i + 1) fun j hj => by
      have := h (j + 1) (by omega)
      rwa [show i + 1 + j = i + (j + 1) by omega]
theorem fitP_wchk {r : Ros} (L : List (List Ord)) : wchk (fitP (r.all 32) L (r.all 32).length) = 0 := by
  unfold wchk
  refine wgo_0 _ 0 fun j hj => ?_
  rw [fitP_length] at hj
  rw [Nat.zero_add]
  have h1 := all_rng (r := r) (r.all 32)[j] (List.getElem_mem hj)
  have hg : (r.all 32).getD j 0 = (r.all 32)[j] := by simp [hj]
  have hb : batchChk (tidy (L.getD j [])) = 0 := batchChk_0 (fun o ho => (tidy_chk _ o ho).1) (tidy_len8 _)
  unfold plyChk
  rw [fitP_get hj]
  simp only [fitP1, hg]
  rw [if_neg (by omega)]
  by_cases h0 : 0 < j
  · have hlt := all_rise (r := r) hj (show j - 1 < j by omega)
    have hg2 : (r.all 32).getD (j - 1) 0 = (r.all 32)[j - 1] := by simp [show j - 1 < (r.all 32).length by omega]
    rw [fitP_get (by omega), if_neg]
    · exact hb
    · simp only [fitP1, hg2]
      omega
  · rw [if_neg (by omega)]
    exact hb
theorem fit_ros {t : Int} {was : Ros} {cs : List Chg} {L : List (List Ord)} (hs : was.s < 2 ^ 32) : (fit t was cs L).ros was = ((fitL was (few cs)).2, 0) := by
  have h := fitL_I hs (few cs)
  have h8 := h.l
  unfold Rec.ros
  rw [if_neg (by simp only [fit]; omega)]
  exact h.go
theorem fit_chk {t : Int} {was : Ros} {cs : List Chg} {L : List (List Ord)} (hs : was.s < 2 ^ 32) : (fit t was cs L).chk t was = 0 := by
  unfold Rec.chk
  rw [fit_ros hs, if_neg (by simp [fit]), if_neg (by simp [fit]), if_neg (by simp), if_neg]
  · exact fitP_wchk L
  · exact fun hh => hh (pls_fitP _ _)
theorem fit_wf {t : Int} {was : Ros} {cs : List Chg} {L : List (List Ord)} (hs : was.s < 2 ^ 32) (ht : 0 ≤ t ∧ t ≤ 1099511627776) : (fit t was cs L).wf := by
  have h := fitL_I hs (few cs)
  refine ⟨ht, h.rd, h.l, by simp [fit], by simp [fit], fun x hx => ?_, ?_⟩
  · simp only [fit, fitP, List.mem_map, List.mem_range] at hx
    obtain ⟨i, hi, rfl⟩ := hx
    have hg : ((fitL was (few cs)).2.all 32).getD i 0 = ((fitL was (few cs)).2.all 32)[i] := by simp [hi]
    exact ⟨by simp only [fitP1, hg]; exact all_rng _ (List.getElem_mem hi), tidy_chk _, tidy_len8 _⟩
  · simp only [fit, fitP_length]
    exact (fitL was (few cs)).2.all_len 32
end Go.Proofs.YtnkdkajllmopaaaGreat.TL
namespace Go.Proofs.YtnkdkajllmopaaaGreat.TL
open Go
set_option linter.unusedVariables false
set_option linter.unusedSimpArgs false

end Go.Proofs.YtnkdkajllmopaaaGreat.TL
