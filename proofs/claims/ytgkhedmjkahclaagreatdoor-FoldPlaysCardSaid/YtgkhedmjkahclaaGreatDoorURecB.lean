/- Records: what is read is what is written: plain laws. -/
import Derived.Test.YtgkhedmjkahclaaGreatDoorURec
import Derived.Test.YtgkhedmjkahclaaGreatDoorUWire
namespace Go.Proofs.YtgkhedmjkahclaaGreatDoor.TL
open Go
set_option linter.unusedVariables false
set_option linter.unusedSimpArgs false

theorem fail_ok {i : In} {x : Int} (h : (i.fail x).e = 0) : i.e = 0 ∧ x = 0 ∧ i.fail x = i := by
  unfold In.fail at h ⊢
  split
  · rename_i hh; rw [if_pos hh] at h; exact absurd h hh.2
  · rename_i hh
    rw [if_neg hh] at h
    refine ⟨h, ?_, rfl⟩
    rcases Int.lt_trichotomy x 0 with h1 | h1 | h1
    · exact absurd ⟨h, by omega⟩ hh
    · exact h1
    · exact absurd ⟨h, by omega⟩ hh
theorem unzig_rng {n : Nat} (h : n < 2 ^ 64) : i64ok (unzig n) := by
  unfold unzig i64ok
  split <;> omega
theorem int_i64 (i : In) : i64ok i.int.2 := unzig_rng i.num_lt

theorem vot_ok : ∀ (n : Nat) (i : In) (l : List Int), (In.vot n i l).1.e = 0 → i.e = 0 ∧ ∃ v, (In.vot n i l).2 = l ++ v ∧ v.length = n ∧ i.l = nbs (v.map Int.toNat) ++ (In.vot n i l).1.l ∧ ∀ x ∈ v, 0 ≤ x ∧ x ≤ 31
  | 0, i, l, h => ⟨h, [], by simp [In.vot]⟩
  | n + 1, i, l, h => by
    unfold In.vot at h ⊢
    split at h
    · rename_i hh; exact absurd h hh
    · rename_i hh
      rw [if_neg hh]
      obtain ⟨h1, v, h2, h3, h4, h5⟩ := vot_ok n _ _ h
      obtain ⟨k1, k2⟩ := In.count_ok h1
      have hr := i.count_rng' 31 (by decide)
      refine ⟨k1, (i.count 31).2 :: v, by rw [h2]; simp, by simp [h3], ?_, fun x hx => ?_⟩
      · rw [k2, h4]; simp [nbs]
      · rcases List.mem_cons.1 hx with rfl | hx
        · exact hr
        · exact h5 x hx
structure Chg.rd (c : Chg) : Prop where
  k : 0 ≤ c.k ∧ c.k ≤ 3
  p : 0 ≤ c.p ∧ c.p ≤ 31
  v : ∀ x ∈ c.v, 0 ≤ x ∧ x ≤ 31
  l : c.v.length ≤ 32
theorem Chg.rd.small {c : Chg} (h : c.rd) : c.small := ⟨by have := h.k; omega, by have := h.p; omega, fun n hn => by have := h.v n hn; omega, by have := h.l; omega⟩
theorem chg_ok {i : In} (h : i.chg.1.e = 0) : i.e = 0 ∧ i.l = i.chg.2.bytes ++ i.chg.1.l ∧ i.chg.2.rd := by
  unfold In.chg at h ⊢
  simp only at h ⊢
  split at h
  · rename_i hh; exact absurd h hh
  · rename_i hh
    rw [if_neg hh]
    obtain ⟨h1, v, h2, h3, h4, h5⟩ := vot_ok _ _ _ h
    obtain ⟨a1, a2⟩ := In.count_ok h1
    obtain ⟨b1, b2⟩ := In.count_ok a1
    obtain ⟨c1, c2⟩ := In.count_ok b1
    have r1 := i.count_rng' 3 (by decide)
    have r2 := (i.count 3).1.count_rng' 31 (by decide)
    have r3 := ((i.count 3).1.count 31).1.count_rng' 32 (by decide)
    simp only [List.nil_append] at h2
    refine ⟨c1, ?_, ⟨r1, r2, by rw [h2]; exact h5, by rw [h2]; simp only; omega⟩⟩
    rw [c2, b2, a2, h4, h2]
    have : (((i.count 3).1.count 31).1.count 32).2.toNat = v.length := h3.symm
    simp [Chg.bytes, nbs, this]
theorem chgs_ok : ∀ (n : Nat) (i : In) (l : List Chg), (In.chgs n i l).1.e = 0 → i.e = 0 ∧ ∃ v, (In.chgs n i l).2 = l ++ v ∧ v.length = n ∧ i.l = chgB v ++ (In.chgs n i l).1.l ∧ ∀ x ∈ v, x.rd
  | 0, i, l, h => ⟨h, [], by simp [In.chgs, chgB]⟩
  | n + 1, i, l, h => by
    unfold In.chgs at h ⊢
    split at h
    · rename_i hh; exact absurd h hh
    · rename_i hh
      rw [if_neg hh]
      obtain ⟨h1, v, h2, h3, h4, h5⟩ := chgs_ok n _ _ h
      obtain ⟨k1, k2, k3⟩ := chg_ok h1
      refine ⟨k1, i.chg.2 :: v, by rw [h2]; simp, by simp [h3], ?_, fun x hx => ?_⟩
      · rw [k2, h4]; simp [chgB]
      · rcases List.mem_cons.1 hx with rfl | hx
        · exact k3
        · exact h5 x hx
theorem ord_ok {i : In} (h : i.ord.1.e = 0) : i.e = 0 ∧ i.l = i.ord.2.ob ++ i.ord.1.l ∧ i.ord.2.ok := by
  unfold In.ord at h ⊢
  simp only at h ⊢
  obtain ⟨f1, f2, f3⟩ := fail_ok h
  rw [f3]
  obtain ⟨a1, a2⟩ := In.int_ok f1
  obtain ⟨b1, b2⟩ := In.int_ok a1
  obtain ⟨c1, c2⟩ := In.count_ok b1
  obtain ⟨d1, d2⟩ := In.count_ok c1
  have r1 := i.count_rng' 4 (by decide)
  have r2 := (i.count 4).1.count_rng' 1099511627776 (by decide)
  have eu : IntKind.u64.wrap ((i.count 4).1.count 1099511627776).2 = ((i.count 4).1.count 1099511627776).2 := u64_id (by omega) (by omega)
  refine ⟨d1, ?_, ⟨⟨by simp only; omega, by simp only; omega⟩, ⟨by simp only; omega, by simp only; omega⟩, int_i64 _, int_i64 _⟩⟩
  rw [d2, c2, b2, a2]
  simp [Ord.ob, eu]
theorem ords_ok : ∀ (n : Nat) (i : In) (l : List Ord), (In.ords n i l).1.e = 0 → i.e = 0 ∧ ∃ v, (In.ords n i l).2 = l ++ v ∧ v.length = n ∧ i.l = obs v ++ (In.ords n i l).1.l ∧ ∀ x ∈ v, x.ok
  | 0, i, l, h => ⟨h, [], by simp [In.ords, obs]⟩
  | n + 1, i, l, h => by
    unfold In.ords at h ⊢
    split at h
    · rename_i hh; exact absurd h hh
    · rename_i hh
      rw [if_neg hh]
      obtain ⟨h1, v, h2, h3, h4, h5⟩ := ords_ok n _ _ h
      obtain ⟨k1, k2, k3⟩ := ord_ok h1
      refine ⟨k1, i.ord.2 :: v, by rw [h2]; simp, by simp [h3], ?_, fun x hx => ?_⟩
      · rw [k2, h4]; simp [obs]
      · rcases List.mem_cons.1 hx with rfl | hx
        · exact k3
        · exact h5 x hx
theorem batch_ok {i : In} (h : i.batch.1.e = 0) : i.e = 0 ∧ i.l = batchB i.batch.2 ++ i.batch.1.l ∧ (∀ o ∈ i.batch.2, o.ok) ∧ i.batch.2.length ≤ 8 := by
  unfold In.batch at h ⊢
  simp only at h ⊢
  rw [if_neg (by simp [h])]
  obtain ⟨h1, v, h2, h3, h4, h5⟩ := ords_ok _ _ _ h
  obtain ⟨a1, a2⟩ := In.count_ok h1
  have r1 := i.count_rng' 8 (by decide)
  simp only [List.nil_append] at h2
  refine ⟨a1, ?_, by rw [h2]; exact h5, by rw [h2]; omega⟩
  rw [a2, h4, h2]
  have : (i.count 8).2.toNat = v.length := h3.symm
  simp [batchB, this]
structure Ply.rd (q : Ply) : Prop where
  p : 0 ≤ q.p ∧ q.p ≤ 31
  b : ∀ o ∈ q.b, o.ok
  l : q.b.length ≤ 8
theorem Ply.rd.ok {q : Ply} (h : q.rd) : q.ok := ⟨by have := h.p; omega, h.b, by have := h.l; omega⟩
theorem ply_ok {i : In} (h : i.ply.1.e = 0) : i.e = 0 ∧ i.l = i.ply.2.bytes ++ i.ply.1.l ∧ i.ply.2.rd := by
  unfold In.ply at h ⊢
  simp only at h ⊢
  obtain ⟨h1, h2, h3, h4⟩ := batch_ok h
  obtain ⟨a1, a2⟩ := In.count_ok h1
  have r1 := i.count_rng' 31 (by decide)
  refine ⟨a1, ?_, ⟨r1, h3, h4⟩⟩
  rw [a2, h2]
  simp [Ply.bytes]
theorem plys_ok : ∀ (n : Nat) (i : In) (l : List Ply), (In.plys n i l).1.e = 0 → i.e = 0 ∧ ∃ v, (In.plys n i l).2 = l ++ v ∧ v.length = n ∧ i.l = plyB v ++ (In.plys n i l).1.l ∧ ∀ x ∈ v, x.rd
  | 0, i, l, h => ⟨h, [], by simp [In.plys, plyB]⟩
  | n + 1, i, l, h => by
    unfold In.plys at h ⊢
    split at h
    · rename_i hh; exact absurd h hh
    · rename_i hh
      rw [if_neg hh]
      obtain ⟨h1, v, h2, h3, h4, h5⟩ := plys_ok n _ _ h
      obtain ⟨k1, k2, k3⟩ := ply_ok h1
      refine ⟨k1, i.ply.2 :: v, by rw [h2]; simp, by simp [h3], ?_, fun x hx => ?_⟩
      · rw [k2, h4]; simp [plyB]
      · rcases List.mem_cons.1 hx with rfl | hx
        · exact k3
        · exact h5 x hx
structure Rec.rd (r : Rec) : Prop where
  t : 0 ≤ r.t ∧ r.t ≤ 1099511627776
  c : ∀ x ∈ r.c, x.rd
  cl : r.c.length ≤ 8
  pt : 0 ≤ r.pt ∧ r.pt ≤ 64
  pd : 0 ≤ r.pd ∧ r.pd ≤ 6
  l : ∀ x ∈ r.l, x.rd
  ll : r.l.length ≤ 32
theorem Rec.rd.ok {r : Rec} (h : r.rd) : r.ok := ⟨by have := h.t; omega, by have := h.pt; omega, by have := h.pd; omega, fun c hc => (h.c c hc).small, by have := h.cl; omega, fun c hc => (h.l c hc).ok, by have := h.ll; omega⟩
theorem rcd_ok {i : In} (h : i.rcd.1.e = 0) : i.e = 0 ∧ i.l = i.rcd.2.bytes ++ i.rcd.1.l ∧ i.rcd.2.rd := by
  unfold In.rcd at h ⊢
  simp only at h ⊢
  split at h
  · rename_i hh; exact absurd h hh
  rename_i hh
  rw [if_neg hh]
  obtain ⟨h1, v, h2, h3, h4, h5⟩ := plys_ok _ _ _ h
  obtain ⟨a1, a2⟩ := In.count_ok h1
  obtain ⟨b1, b2⟩ := In.count_ok a1
  obtain ⟨c1, c2⟩ := In.count_ok b1
  obtain ⟨d1, w, d2, d3, d4, d5⟩ := chgs_ok _ _ _ c1
  obtain ⟨e1, e2⟩ := In.count_ok d1
  obtain ⟨f1, f2⟩ := In.count_ok e1
  have r1 := i.count_rng' 1099511627776 (by decide)
  have r2 := (i.count 1099511627776).1.count_rng' 8 (by decide)
  generalize hC : In.chgs ((i.count 1099511627776).1.count 8).2.toNat ((i.count 1099511627776).1.count 8).1 [] = C at *
  have r3 := C.1.count_rng' 64 (by decide)
  have r4 := (C.1.count 64).1.count_rng' 6 (by decide)
  have r5 := ((C.1.count 64).1.count 6).1.count_rng' 32 (by decide)
  simp only [List.nil_append] at h2 d2
  refine ⟨f1, ?_, ⟨r1, by rw [d2]; exact d5, by rw [d2]; simp only; omega, r3, r4, by rw [h2]; exact h5, by rw [h2]; simp only; omega⟩⟩
  rw [f2, e2, d4, c2, b2, a2, h4, h2, d2]
  have k1 : ((i.count 1099511627776).1.count 8).2.toNat = w.length := d3.symm
  have k2 : (((C.1.count 64).1.count 6).1.count 32).2.toNat = v.length := h3.symm
  simp [Rec.bytes, k1, k2]
end Go.Proofs.YtgkhedmjkahclaaGreatDoor.TL
