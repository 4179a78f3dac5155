/- Units: read of bytes. -/
/- A table's bytes, and back: plain laws. -/
import Derived.Test.YtnkdkajllmopaaaGreatUUnit
import Derived.Test.YtnkdkajllmopaaaGreatUIn
import Derived.Test.YtnkdkajllmopaaaGreatUWire
namespace Go.Proofs.YtnkdkajllmopaaaGreat.TL
open Go
set_option linter.unusedVariables false
set_option linter.unusedSimpArgs false

def Un.setAt (w : Un) : Nat → Int → Un
  | 0, x => { w with a := x }
  | 1, x => { w with b := x }
  | 2, x => { w with c := x }
  | 3, x => { w with d := x }
  | _, x => { w with e := x }
theorem setAt_id (w : Un) (j : Nat) (x : Int) : (w.setAt j x).id = w.id := by unfold Un.setAt; split <;> rfl
theorem setAt_cells (w : Un) {j : Nat} (hj : j < 5) (x : Int) : List.take (1 + j) w.cells ++ i64v x :: List.drop (1 + j + 1) w.cells = (w.setAt j x).cells := by
  match j, hj with
  | 0, _ => rfl
  | 1, _ => rfl
  | 2, _ => rfl
  | 3, _ => rfl
  | 4, _ => rfl
theorem setAt_drop (w : Un) {j : Nat} (hj : j < 5) (x : Int) : ∃ L, List.drop (1 + j) (w.setAt j x).cells = i64v x :: L := by
  match j, hj with
  | 0, _ => exact ⟨_, rfl⟩
  | 1, _ => exact ⟨_, rfl⟩
  | 2, _ => exact ⟨_, rfl⟩
  | 3, _ => exact ⟨_, rfl⟩
  | 4, _ => exact ⟨_, rfl⟩
theorem cells_len (w : Un) : w.cells.length = 6 := rfl

def In.field (j : Nat) (i : In) (w : Un) : In × Un := (if mayF j i.int.2 = true then i.int.1 else i.int.1.fail 4, w.setAt j i.int.2)
def In.flds : Nat → Nat → In → Un → In × Un
  | 0, _, i, w => (i, w)
  | n + 1, j, i, w => In.flds n (j + 1) (i.field j w).1 (i.field j w).2
def In.unit (i : In) (last next : Int) : In × Un :=
  let c := i.count 1099511627776
  let p := In.flds 5 0 c.1 ⟨last + c.2, 0, 0, 0, 0, 0⟩
  (if p.2.id = last ∨ next ≤ p.2.id then p.1.fail 12 else p.1, p.2)
def In.units : Nat → In → Int → Int → List Un → In × List Un
  | 0, i, _, _, l => (i, l)
  | n + 1, i, last, next, l => if i.e ≠ 0 then (i, l) else In.units n (i.unit last next).1 (i.unit last next).2.id next (l ++ [(i.unit last next).2])
def In.tab (i : In) : In × Tab :=
  let c := i.count 1099511627776
  let n := c.1.count 64
  let q := In.units n.2.toNat n.1 0 c.2 []
  (if c.2 < 1 then q.1.fail 4 else q.1, ⟨q.2, c.2⟩)

theorem flds_id : ∀ (n j : Nat) (i : In) (w : Un), (In.flds n j i w).2.id = w.id
  | 0, _, _, _ => rfl
  | n + 1, j, i, w => by rw [In.flds, flds_id]; exact setAt_id w j _
theorem unit_id (i : In) (last next : Int) : (i.unit last next).2.id = last + (i.count 1099511627776).2 := flds_id 5 0 _ _

theorem In.count_rng (i : In) (m : Int) (hm : 0 ≤ m) : 0 ≤ (i.count m).2 ∧ (i.count m).2 ≤ m := by
  unfold In.count
  split
  · exact ⟨Int.le_refl _, hm⟩
  · exact ⟨by simp, by simp only; omega⟩

set_option maxHeartbeats 2000000 in
set_option maxRecDepth 100000 in
theorem Read8_T (v : Nat) (i : In) : callT Tryz.prog 108 [.at 1000 v 0] ⟨[], [(1000, v, inB i)]⟩
    (fun r h => (i.tab.1.e ≠ 0 ∧ r = .v (.pointer none) ∧ h = [(1000, v, inB i.tab.1)]) ∨ (i.tab.1.e = 0 ∧ ∃ vt u, r = .at 11 vt 0 ∧ h = [(1000, v, inB i.tab.1), (11, vt, ⟨0, [.sl 1001 u 0 i.tab.2.l.length, i64v i.tab.2.next]⟩), (1001, u, ⟨6, rowU i.tab.2.l⟩)])) := by
  refine callT.mono (K := fun r h => (i.tab.1.e ≠ 0 ∧ r = .v (.pointer none) ∧ ∃ a b c, h = [(1000, v, inB i.tab.1), (11, a, b), (1001, c)]) ∨ (i.tab.1.e = 0 ∧ ∃ vt u, r = .at 11 vt 0 ∧ h = [(1000, v, inB i.tab.1), (11, vt, ⟨0, [.sl 1001 u 0 i.tab.2.l.length, i64v i.tab.2.next]⟩), (1001, u, ⟨6, rowU i.tab.2.l⟩)])) ?_ fun r h hh => ?_
  · refine callT_of_body [0, 2, 3, 4, 5, 6, 7, 20, 28, 29, 42, 58, 77, 82] [1000, 11, 1001] Tryz.func108 rfl (by decide) (by kernel_rfl) rfl ?_
    have hc1 := i.count_rng 1099511627776 (by decide)
    have hc2 := (i.count 1099511627776).1.count_rng 64 (by decide)
    simp
    refine callT_eq [(1000, 1000)] (Count_T v i 1099511627776 (by decide)) ?_
    simp
    intro v11
    refine callT_eq [(1000, 1000)] (Count_T v (i.count 1099511627776).1 64 (by decide)) ?_
    simp
    refine ⟨Nat × In × Int × List Un × Nat, fun x => x.1 + x.2.2.2.1.length ≤ 64 ∧ 0 ≤ x.2.2.1 ∧ x.2.2.1 ≤ x.2.2.2.1.length * 1099511627776 ∧ In.units x.1 x.2.1 x.2.2.1 (i.count 1099511627776).2 x.2.2.2.1 = In.units ((i.count 1099511627776).1.count 64).2.toNat ((i.count 1099511627776).1.count 64).1 0 (i.count 1099511627776).2 [],
      fun x => ⟨[(0, .at 1000 v 0), (3, .at 11 v11 0), (4, i64v x.2.2.1), (5, .v (.int .i64 x.1))], [(1000, v, inB x.2.1), (11, v11, ⟨0, [.sl 1001 x.2.2.2.2 0 x.2.2.2.1.length, i64v (i.count 1099511627776).2]⟩), (1001, x.2.2.2.2, ⟨6, rowU x.2.2.2.1⟩)]⟩, fun x => x.1, ?_, ?_⟩
    · refine SLx.nilCell 11 0 1001 6 (by decide) (by decide) rfl rfl fun u => SLx.fin _ ⟨(((i.count 1099511627776).1.count 64).2.toNat, ((i.count 1099511627776).1.count 64).1, 0, [], u), ⟨by simp only [List.length_nil]; omega, by simp, by simp, rfl⟩, rfl⟩ ?_ ?_
      · simp [i64v]; omega
      · simp [i64v, setH]
    · rintro ⟨n, i1, last, l, u⟩ ⟨hn, hl0, hl1, hrec⟩
      simp only at hn hl0 hl1 hrec ⊢
      have out : In.units n i1 last (i.count 1099511627776).2 l = (i1, l) → i.tab = (if (i.count 1099511627776).2 < 1 then i1.fail 4 else i1, ⟨l, (i.count 1099511627776).2⟩) := fun h => by
        simp only [In.tab, ← hrec, h]
      cases n with
      | zero =>
        have hb := out rfl
        simp
        by_cases h4 : (i.count 1099511627776).2 < 1
        · simp [i64v, h4]
          refine callT_eq [(1000, 1000)] (Fail_T v i1 4) ?_
          simp
          refine callT_eq [(1000, 1000)] (Err_T v (i1.fail 4)) ?_
          have h5 : (i1.fail 4).e ≠ 0 := by unfold In.fail; split <;> simp_all
          simp [hb, h4, h5, i64v]
        · simp [i64v, h4]
          refine callT_eq [(1000, 1000)] (Err_T v i1) ?_
          by_cases h5 : i1.e = 0
          · simp [hb, h4, h5, i64v]
          · simp [hb, h4, h5, i64v]
      | succ n =>
        have hn0 : (0 : Int) < (n : Int) + 1 := by omega
        simp [hn0]
        refine callT_eq [(1000, 1000)] (Err_T v i1) ?_
        by_cases he : i1.e ≠ 0
        · have hb := out (by simp [In.units, he])
          simp [he]
          by_cases h4 : (i.count 1099511627776).2 < 1
          · simp [i64v, h4]
            refine callT_eq [(1000, 1000)] (Fail_T v i1 4) ?_
            simp
            refine callT_eq [(1000, 1000)] (Err_T v (i1.fail 4)) ?_
            have h5 : (i1.fail 4).e ≠ 0 := by unfold In.fail; split <;> simp_all
            simp [hb, h4, h5, i64v]
          · simp [i64v, h4]
            refine callT_eq [(1000, 1000)] (Err_T v i1) ?_
            by_cases h5 : i1.e = 0
            · simp [hb, h4, h5, i64v]
            · simp [hb, h4, h5, i64v]
        have he0 : i1.e = 0 := by simpa using he
        simp [he0]
        refine callT_eq [(1000, 1000)] (Count_T v i1 1099511627776 (by decide)) ?_
        have hcr := i1.count_rng 1099511627776 (by decide)
        have e1 : IntKind.i64.wrap (i1.count 1099511627776).2 = (i1.count 1099511627776).2 := i64_id (by omega) (by omega)
        have e2 : IntKind.i64.wrap (last + (i1.count 1099511627776).2) = last + (i1.count 1099511627776).2 := i64_id (by omega) (by omega)
        simp [i64v, e1, e2]
        refine ⟨he0.symm, fun v6 => ?_⟩
        refine loopT_of (Nat × In × Un) (fun x => x.1 ≤ 5 ∧ In.flds (5 - x.1) x.1 x.2.1 x.2.2 = In.flds 5 0 (i1.count 1099511627776).1 ⟨last + (i1.count 1099511627776).2, 0, 0, 0, 0, 0⟩) (fun x => ⟨[(0, .at 1000 v 0), (3, .at 11 v11 0), (4, i64v last), (5, .v (.int .i64 ((n + 1 : Nat) : Int))), (6, .at 6 v6 0), (28, .v (.int .i64 x.1))], [(1000, v, inB x.2.1), (11, v11, ⟨0, [.sl 1001 u 0 l.length, i64v (i.count 1099511627776).2]⟩), (1001, u, ⟨6, rowU l⟩), (6, v6, ⟨0, x.2.2.cells⟩)]⟩) (fun x => 5 - x.1) (0, (i1.count 1099511627776).1, ⟨last + (i1.count 1099511627776).2, 0, 0, 0, 0, 0⟩) ⟨by simp, rfl⟩ (by simp [i64v]) (by simp [Un.cells, i64v]) ?_
        rintro ⟨k, i2, w⟩ ⟨hk, hflds⟩
        simp only at hk hflds ⊢
        by_cases hk5 : k < 5
        · have hk5' : (k : Int) < 5 := by omega
          simp [hk5']
          refine callT_eq [(1000, 1000)] (Int_T v i2) ?_
          have hset := setAt_cells w hk5 i2.int.2
          obtain ⟨L, hL⟩ := setAt_drop w hk5 i2.int.2
          simp only [i64v] at hset hL
          have hk6 : 1 + k + 1 ≤ 6 := by omega
          simp [cells_len, hk5', hset, hL, hk6]
          refine callT_eq [] (May_T k i2.int.2) ?_
          have e5 : IntKind.i64.wrap ((k : Int) + 1) = ((k + 1 : Nat) : Int) := by rw [i64_id (by omega) (by omega)]; rfl
          have hnext : In.flds (5 - (k + 1)) (k + 1) (i2.field k w).1 (i2.field k w).2 = In.flds (5 - k) k i2 w := by
            rw [show 5 - k = (5 - (k + 1)) + 1 by omega, In.flds]
          by_cases hm : mayF k i2.int.2 = true
          · simp [hm, i64v]
            refine SLx.again (k + 1, (i2.field k w).1, (i2.field k w).2) ⟨by simp only; omega, hnext.trans hflds⟩ (by simp only; omega) (by simp [e5, i64v]) (by simp [In.field, hm, i64v])
          · rw [Bool.not_eq_true] at hm
            simp [hm, i64v]
            refine callT_eq [(1000, 1000)] (Fail_T v i2.int.1 4) ?_
            simp
            refine SLx.again (k + 1, (i2.field k w).1, (i2.field k w).2) ⟨by simp only; omega, hnext.trans hflds⟩ (by simp only; omega) (by simp [e5, i64v]) (by simp [In.field, hm, i64v])
        · have hk : k = 5 := by omega
          subst hk
          have hfl : In.flds 5 0 (i1.count 1099511627776).1 ⟨last + (i1.count 1099511627776).2, 0, 0, 0, 0, 0⟩ = (i2, w) := hflds.symm
          have hid : w.id = last + (i1.count 1099511627776).2 := by
            have := unit_id i1 last (i.count 1099511627776).2
            simp only [In.unit, hfl] at this
            exact this
          have hunit : i1.unit last (i.count 1099511627776).2 = (if w.id = last ∨ (i.count 1099511627776).2 ≤ w.id then i2.fail 12 else i2, w) := by
            simp only [In.unit, hfl]
          have hw6 : List.take 6 w.cells = w.cells := List.take_of_length_le (by simp [cells_len])
          have hw0 : w.cells = i64v w.id :: [i64v w.a, i64v w.b, i64v w.c, i64v w.d, i64v w.e] := rfl
          simp
          refine draw_quiet (by kernel_rfl) (by kernel_rfl) (by kernel_rfl) ?_
          have e6 : IntKind.i64.wrap ((n : Int) + 1 - 1) = (n : Int) := by rw [i64_id (by omega) (by omega)]; omega
          have e7 : IntKind.i64.wrap (n : Int) = (n : Int) := i64_id (by omega) (by omega)
          have hrec2 : In.units n (i1.unit last (i.count 1099511627776).2).1 (i1.unit last (i.count 1099511627776).2).2.id (i.count 1099511627776).2 (l ++ [(i1.unit last (i.count 1099511627776).2).2]) = In.units (n + 1) i1 last (i.count 1099511627776).2 l := by
            rw [In.units, if_neg (by simp [he0])]
          by_cases hbad : w.id = last ∨ (i.count 1099511627776).2 ≤ w.id
          · have hu1 : (i1.unit last (i.count 1099511627776).2).1 = i2.fail 12 := by rw [hunit, if_pos hbad]
            have hu2 : (i1.unit last (i.count 1099511627776).2).2 = w := by rw [hunit]
            simp [hw0, i64v]
            refine ⟨fun _ => ?_, by intros; exfalso; omega⟩
            refine callT_eq [(1000, 1000)] (Fail_T v i2 12) ?_
            simp
            refine draw_g [0, 1, 2, 3, 4, 5, 6, 7] 8 [(7, [1, 2, 3, 4, 5, 6])] (by kernel_rfl) (by kernel_rfl) (by kernel_rfl) ?_
            have t6 : List.take (l.length * 6) (rowU l) = rowU l := List.take_of_length_le (by simp)
            simp [t6]
            refine ⟨by omega, by omega, fun u5 => ?_⟩
            exact SLx.again (n, i2.fail 12, w.id, l ++ [w], u5) ⟨by simp; omega, by simp only; omega, by simp; omega, by rw [← hrec, ← hrec2, hu1, hu2]⟩ (by simp) (by simp [i64v, e6, e7]) (by simp [i64v, Un.cells])
          · have hu1 : (i1.unit last (i.count 1099511627776).2).1 = i2 := by rw [hunit, if_neg hbad]
            have hu2 : (i1.unit last (i.count 1099511627776).2).2 = w := by rw [hunit]
            have hb1 : ¬ w.id = last := fun h => hbad (.inl h)
            have hb2 : ¬ (i.count 1099511627776).2 ≤ w.id := fun h => hbad (.inr h)
            simp [hw0, i64v, hb1, hb2]
            refine draw_g [0, 1, 2, 3, 4, 5, 6, 7] 8 [(7, [1, 2, 3, 4, 5, 6])] (by kernel_rfl) (by kernel_rfl) (by kernel_rfl) ?_
            have t6 : List.take (l.length * 6) (rowU l) = rowU l := List.take_of_length_le (by simp)
            simp [t6]
            refine ⟨by omega, by omega, fun u5 => ?_⟩
            exact SLx.again (n, i2, w.id, l ++ [w], u5) ⟨by simp; omega, by simp only; omega, by simp; omega, by rw [← hrec, ← hrec2, hu1, hu2]⟩ (by simp) (by simp [i64v, e6, e7]) (by simp [i64v, Un.cells])
  · rcases hh with ⟨h1, rfl, a, b, c, rfl⟩ | ⟨h1, vt, u, rfl, rfl⟩
    · exact VLx.sub [(1000, v, inB i.tab.1)] (by simp [getH]) (VLx.done (.inl ⟨h1, rfl, rfl⟩))
    · exact VLx.done (.inr ⟨h1, vt, u, rfl, rfl⟩)
end Go.Proofs.YtnkdkajllmopaaaGreat.TL
namespace Go.Proofs.YtnkdkajllmopaaaGreat.TL
open Go
set_option linter.unusedVariables false
set_option linter.unusedSimpArgs false

theorem In.field_ok {j : Nat} {i : In} {w : Un} (h : (i.field j w).1.e = 0) : i.e = 0 ∧ i.l = nb (zig i.int.2) ++ (i.field j w).1.l ∧ mayF j i.int.2 = true ∧ (i.field j w).2 = w.setAt j i.int.2 := by
  unfold In.field at h ⊢
  by_cases hm : mayF j i.int.2 = true
  · rw [if_pos hm] at h ⊢
    exact ⟨(In.int_ok h).1, (In.int_ok h).2, hm, rfl⟩
  · rw [if_neg hm] at h
    exact absurd h (In.fail_e (by decide))
theorem In.field_nb {j : Nat} {w : Un} {l : List UInt8} {x : Int} (hx : mayF j x = true) (h0 : -1000 ≤ x) (h1 : x ≤ 1000) : In.field j ⟨nb (zig x) ++ l, 0⟩ w = (⟨l, 0⟩, w.setAt j x) := by
  unfold In.field
  rw [In.int_nb l (by omega) (by omega), if_pos hx]

theorem In.flds5_ok {i : In} {w : Un} (h : (In.flds 5 0 i w).1.e = 0) : i.e = 0 ∧ i.l = nbs ((In.flds 5 0 i w).2.flds.map zig) ++ (In.flds 5 0 i w).1.l ∧ (In.flds 5 0 i w).2.fok := by
  simp only [In.flds] at h ⊢
  generalize hA : In.field 0 i w = A at h ⊢
  generalize hB : In.field (0 + 1) A.1 A.2 = B at h ⊢
  generalize hC : In.field (0 + 1 + 1) B.1 B.2 = C at h ⊢
  generalize hD : In.field (0 + 1 + 1 + 1) C.1 C.2 = D at h ⊢
  generalize hE : In.field (0 + 1 + 1 + 1 + 1) D.1 D.2 = E at h ⊢
  obtain ⟨e1, e2, e3, e4⟩ := In.field_ok (by rw [hE]; exact h)
  obtain ⟨d1, d2, d3, d4⟩ := In.field_ok (by rw [hD]; exact e1)
  obtain ⟨c1, c2, c3, c4⟩ := In.field_ok (by rw [hC]; exact d1)
  obtain ⟨b1, b2, b3, b4⟩ := In.field_ok (by rw [hB]; exact c1)
  obtain ⟨a1, a2, a3, a4⟩ := In.field_ok (by rw [hA]; exact b1)
  rw [hE] at e2 e4
  rw [hD] at d2 d4
  rw [hC] at c2 c4
  rw [hB] at b2 b4
  rw [hA] at a2 a4
  have hw : E.2 = ⟨w.id, i.int.2, A.1.int.2, B.1.int.2, C.1.int.2, D.1.int.2⟩ := by
    rw [e4, d4, c4, b4, a4]; rfl
  refine ⟨a1, ?_, ?_⟩
  · rw [a2, b2, c2, d2, e2, hw]
    simp [Un.flds, nbs]
  · rw [hw]
    exact ⟨a3, b3, c3, d3, e3⟩

theorem In.unit_ok {i : In} {last next : Int} (h : (i.unit last next).1.e = 0) : i.e = 0 ∧ i.l = nb ((i.unit last next).2.id - last).toNat ++ (nbs ((i.unit last next).2.flds.map zig) ++ (i.unit last next).1.l) ∧ (i.unit last next).2.fok ∧ last < (i.unit last next).2.id ∧ (i.unit last next).2.id < next := by
  have hid := unit_id i last next
  have hcr := i.count_rng 1099511627776 (by decide)
  unfold In.unit at h hid ⊢
  simp only at h hid ⊢
  by_cases hb : (In.flds 5 0 (i.count 1099511627776).1 ⟨last + (i.count 1099511627776).2, 0, 0, 0, 0, 0⟩).2.id = last ∨ next ≤ (In.flds 5 0 (i.count 1099511627776).1 ⟨last + (i.count 1099511627776).2, 0, 0, 0, 0, 0⟩).2.id
  · rw [if_pos hb] at h
    exact absurd h (In.fail_e (by decide))
  · rw [if_neg hb] at h ⊢
    obtain ⟨f1, f2, f3⟩ := In.flds5_ok h
    obtain ⟨n1, n2⟩ := In.count_ok f1
    refine ⟨n1, ?_, f3, by omega, by omega⟩
    rw [hid, n2, f2, show last + (i.count 1099511627776).2 - last = (i.count 1099511627776).2 by omega]

theorem In.flds5_nb {w : Un} {l : List UInt8} (hf : w.fok) : In.flds 5 0 ⟨nbs (w.flds.map zig) ++ l, 0⟩ ⟨w.id, 0, 0, 0, 0, 0⟩ = (⟨l, 0⟩, w) := by
  have hr := fok_rng hf
  have ra := hr w.a (by simp [Un.flds])
  have rb := hr w.b (by simp [Un.flds])
  have rc := hr w.c (by simp [Un.flds])
  have rd := hr w.d (by simp [Un.flds])
  have re := hr w.e (by simp [Un.flds])
  simp only [In.flds, Un.flds, nbs, List.map_cons, List.map_nil, List.flatten_cons, List.flatten_nil, List.append_nil, List.append_assoc]
  rw [In.field_nb (j := 0) hf.a ra.1 ra.2]
  simp only
  rw [In.field_nb (j := 0 + 1) hf.b rb.1 rb.2]
  simp only
  rw [In.field_nb (j := 0 + 1 + 1) hf.c rc.1 rc.2]
  simp only
  rw [In.field_nb (j := 0 + 1 + 1 + 1) hf.d rd.1 rd.2]
  simp only
  rw [In.field_nb (j := 0 + 1 + 1 + 1 + 1) hf.e re.1 re.2]
  rfl

theorem In.unit_nb {w : Un} {last next : Int} {l : List UInt8} (hf : w.fok) (h0 : last < w.id) (h1 : w.id < next) (h2 : 0 ≤ last) (h3 : next ≤ 1099511627776) :
    In.unit ⟨nb (w.id - last).toNat ++ (nbs (w.flds.map zig) ++ l), 0⟩ last next = (⟨l, 0⟩, w) := by
  have hc := In.count_nb (m := 1099511627776) (n := (w.id - last).toNat) (nbs (w.flds.map zig) ++ l) (by decide) (by omega)
  have hn : last + (((w.id - last).toNat : Nat) : Int) = w.id := by omega
  have hb : ¬ (w.id = last ∨ next ≤ w.id) := by omega
  unfold In.unit
  simp only [hc, hn, In.flds5_nb hf, hb, if_false]

theorem In.units_ok : ∀ (n : Nat) (i : In) (last next : Int) (l : List Un), (In.units n i last next l).1.e = 0 → ∃ us : List Un, (In.units n i last next l).2 = l ++ us ∧ us.length = n ∧ i.e = 0 ∧ i.l = ubs last us ++ (In.units n i last next l).1.l ∧
    (∀ w ∈ us, w.fok ∧ last < w.id ∧ w.id < next) ∧ us.Pairwise fun a b => a.id < b.id
  | 0, i, last, next, l, h => ⟨[], by simp [In.units], rfl, h, by simp [ubs, In.units], fun w hw => (by cases hw), List.Pairwise.nil⟩
  | n + 1, i, last, next, l, h => by
    unfold In.units at h ⊢
    by_cases he : i.e ≠ 0
    · rw [if_pos he] at h; exact absurd h he
    · rw [if_neg he] at h ⊢
      obtain ⟨us, g1, g2, g3, g4, g5, g6⟩ := In.units_ok n _ _ next _ h
      obtain ⟨u1, u2, u3, u4, u5⟩ := In.unit_ok g3
      refine ⟨(i.unit last next).2 :: us, by rw [g1]; simp, by simp [g2], u1, by rw [u2, g4]; simp [ubs], fun w hw => ?_, List.pairwise_cons.2 ⟨fun w hw => (g5 w hw).2.1, g6⟩⟩
      rcases List.mem_cons.1 hw with rfl | hw
      · exact ⟨u3, u4, u5⟩
      · have := g5 w hw
        exact ⟨this.1, by omega, this.2.2⟩

theorem In.units_nb (next : Int) (h3 : next ≤ 1099511627776) (l : List UInt8) : ∀ (us : List Un) (last : Int) (acc : List Un), (∀ w ∈ us, w.fok ∧ last < w.id ∧ w.id < next) → us.Pairwise (fun a b => a.id < b.id) → 0 ≤ last →
    In.units us.length ⟨ubs last us ++ l, 0⟩ last next acc = (⟨l, 0⟩, acc ++ us)
  | [], last, acc, _, _, _ => by simp [In.units, ubs]
  | w :: us, last, acc, h, hp, h0 => by
    obtain ⟨h1, h2⟩ := List.pairwise_cons.1 hp
    have hw := h w List.mem_cons_self
    have hu := In.unit_nb (l := ubs w.id us ++ l) hw.1 hw.2.1 hw.2.2 h0 h3
    simp only [List.length_cons, In.units, ubs, List.append_assoc, ne_eq, not_true_eq_false, if_false]
    rw [hu]
    simp only
    rw [In.units_nb next h3 l us w.id _ (fun v hv => ⟨(h v (List.mem_cons_of_mem _ hv)).1, h1 v hv, (h v (List.mem_cons_of_mem _ hv)).2.2⟩) h2 (by omega)]
    simp

theorem In.tab_ok {i : In} (h : i.tab.1.e = 0) : i.e = 0 ∧ i.tab.2.WF ∧ i.l = tabB i.tab.2 ++ i.tab.1.l := by
  have hc1 := i.count_rng 1099511627776 (by decide)
  have hc2 := (i.count 1099511627776).1.count_rng 64 (by decide)
  unfold In.tab at h ⊢
  simp only at h ⊢
  by_cases h4 : (i.count 1099511627776).2 < 1
  · rw [if_pos h4] at h
    exact absurd h (In.fail_e (by decide))
  · rw [if_neg h4] at h ⊢
    obtain ⟨us, g1, g2, g3, g4, g5, g6⟩ := In.units_ok _ _ _ _ _ h
    obtain ⟨n1, n2⟩ := In.count_ok g3
    obtain ⟨m1, m2⟩ := In.count_ok n1
    rw [g1]
    refine ⟨m1, ⟨by simpa using g6, fun w hw => ?_, by simp [g2]; omega, by simp only; omega, fun w hw => (g5 w (by simpa using hw)).1⟩, ?_⟩
    · have := g5 w (by simpa using hw)
      simp only; omega
    · rw [m2, n2, g4]
      simp [tabB, g2]

theorem In.tab_nb {t : Tab} (ht : t.WF) (l : List UInt8) : In.tab ⟨tabB t ++ l, 0⟩ = (⟨l, 0⟩, t) := by
  have hnx := ht.nx
  have hlen := ht.len
  unfold In.tab
  simp only [tabB, List.append_assoc]
  rw [In.count_nb _ (by decide) (by omega)]
  simp only
  rw [In.count_nb _ (by decide) (by omega)]
  simp only [Int.toNat_natCast]
  rw [In.units_nb _ (by omega) l t.l 0 [] (fun w hw => ⟨ht.fo w hw, by have := ht.lt w hw; omega, by have := ht.lt w hw; omega⟩) ht.asc (by omega)]
  rw [if_neg (by omega)]
  simp [Int.toNat_of_nonneg (show 0 ≤ t.next by omega)]
end Go.Proofs.YtnkdkajllmopaaaGreat.TL
