/- A world read of bytes. -/
/- world.Restore. -/
/- A world's bytes, read again. -/
/- A world's bytes, read back: the world. Plain laws. -/
import Derived.Test.YtnkdkajllmopaaaGreatUWTxt
import Derived.Test.YtnkdkajllmopaaaGreatUTab8
import Derived.Test.YtnkdkajllmopaaaGreatUFold
namespace Go.Proofs.YtnkdkajllmopaaaGreat.TL
open Go
set_option linter.unusedVariables false
set_option linter.unusedSimpArgs false

def In.cells : Nat → Nat → In → List Int → In × List Int
  | 0, _, i, c => (i, c)
  | n + 1, k, i, c => In.cells n (k + 1) i.int.1 (c.set k i.int.2)
/-- A heap, read. -/
def In.heap (i : In) : In × List Int :=
  let c := i.count 64
  let q := In.cells c.2.toNat 0 c.1 (List.replicate 64 0)
  (if 0 < c.2 ∧ q.2[c.2.toNat - 1]?.getD 0 = 0 then q.1.fail 2 else q.1, q.2)
def CellsTo (n k : Nat) (i : In) (c : List Int) (j0 : In) : Prop := In.cells (n - k) k i c = In.cells n 0 j0 (List.replicate 64 0)
theorem cells_len64 : ∀ (n k : Nat) (i : In) (c : List Int), (In.cells n k i c).2.length = c.length
  | 0, _, _, _ => rfl
  | n + 1, k, i, c => by rw [In.cells, cells_len64]; simp
theorem heap_len (i : In) : i.heap.2.length = 64 := by simp [In.heap, cells_len64]

set_option maxHeartbeats 1000000 in
set_option maxRecDepth 100000 in
theorem FRead_T (v : Nat) (i : In) : callT Tryz.prog 107 [.at 1000 v 0] ⟨[], [(1000, v, inB i)]⟩
    (fun r h => (i.heap.1.e ≠ 0 ∧ r = .v (.pointer none) ∧ h = [(1000, v, inB i.heap.1)]) ∨ (i.heap.1.e = 0 ∧ ∃ vh, r = .at 3 vh 0 ∧ h = [(1000, v, inB i.heap.1), (3, vh, ⟨0, i.heap.2.map i64v⟩)])) := by
  refine callT.mono (K := fun r h => (i.heap.1.e ≠ 0 ∧ r = .v (.pointer none) ∧ ∃ a b, h = [(1000, v, inB i.heap.1), (3, a, b)]) ∨ (i.heap.1.e = 0 ∧ ∃ vh, r = .at 3 vh 0 ∧ h = [(1000, v, inB i.heap.1), (3, vh, ⟨0, i.heap.2.map i64v⟩)])) ?_ fun r h hh => ?_
  · refine callT_of_body [0, 2, 3, 4, 5, 8, 9, 10, 27, 32] [1000, 3] Tryz.func107 rfl (by decide) (by kernel_rfl) rfl ?_
    have hcr := In.count_rng i 64 (by decide)
    have hc := Count_T v i 64 (by decide)
    simp [-List.reduceReplicate]
    intro v3
    refine callT_eq [(1000, 1000)] hc ?_
    obtain ⟨n, hn⟩ : ∃ n : Nat, (i.count 64).2 = n := ⟨(i.count 64).2.toNat, by omega⟩
    have hn64 : n ≤ 64 := by omega
    obtain ⟨j0, hj0⟩ : ∃ j, j = (i.count 64).1 := ⟨_, rfl⟩
    have hh : i.heap = (if 0 < n ∧ (In.cells n 0 j0 (List.replicate 64 0)).2[n - 1]?.getD 0 = 0 then (In.cells n 0 j0 (List.replicate 64 0)).1.fail 2 else (In.cells n 0 j0 (List.replicate 64 0)).1, (In.cells n 0 j0 (List.replicate 64 0)).2) := by
      simp only [In.heap, hn, hj0]
      simp
    rw [hh]
    simp [-List.reduceReplicate, hn, ← hj0]
    refine loopT_of (Nat × In × List Int) (fun x => x.1 ≤ n ∧ x.2.2.length = 64 ∧ CellsTo n x.1 x.2.1 x.2.2 j0) (fun x => ⟨[(0, .at 1000 v 0), (3, .at 3 v3 0), (4, i64v n), (8, i64v n), (9, i64v x.1)], [(1000, v, inB x.2.1), (3, v3, ⟨0, x.2.2.map i64v⟩)]⟩) (fun x => n - x.1) (0, j0, List.replicate 64 0) ⟨by simp, by simp, rfl⟩ (by simp [i64v]) (by simp [i64v]) ?_
    rintro ⟨k, i1, c⟩ ⟨hk, hl, hr⟩
    simp only at hk hl hr ⊢
    by_cases g : k < n
    · have g' : (k : Int) < n := by omega
      have ek : IntKind.i64.wrap ((k : Int) + 1) = ((k + 1 : Nat) : Int) := by rw [i64_id (by omega) (by omega)]; rfl
      rw [CellsTo, show n - k = (n - (k + 1)) + 1 by omega, In.cells] at hr
      have hso := set_over (D := c) (k := k) (x := i1.int.2) (by omega)
      simp only [i64v] at hso
      have g64 : (k : Int) < 64 := by omega
      have g64' : k < c.length := by omega
      simp [i64v, g, g']
      refine callT_eq [(1000, 1000)] (Int_T v i1) ?_
      simp [i64v, g64, g64']
      exact ⟨by omega, SLx.again (k + 1, i1.int.1, c.set k i1.int.2) ⟨by simp only; omega, by simpa using hl, hr⟩ (by simp only; omega) (by simp [i64v, ek]) (by simp [i64v, hso])⟩
    · have hkn : k = n := by omega
      subst hkn
      simp only [CellsTo, Nat.sub_self, In.cells] at hr
      rw [← hr]
      by_cases k0 : k = 0
      · subst k0
        simp [i64v]
        refine callT_eq [(1000, 1000)] (Err_T v i1) ?_
        by_cases he : i1.e = 0 <;> simp [he, i64v]
      · have k0' : 0 < k := by omega
        have kl : k - 1 < c.length := by omega
        have kl' : (k : Int) - 1 < 64 := by omega
        have kl0 : ¬ (k : Int) - 1 < 0 := by omega
        have ek : IntKind.i64.wrap ((k : Int) - 1) = ((k - 1 : Nat) : Int) := by rw [i64_id (by omega) (by omega)]; omega
        have kl2 : ((k - 1 : Nat) : Int) < 64 := by omega
        by_cases hz : c[k - 1] = 0
        · simp [i64v, k0', k0, ek, kl, kl2, hz]
          refine callT_eq [(1000, 1000)] (Fail_T v i1 2) ?_
          simp
          refine callT_eq [(1000, 1000)] (Err_T v (i1.fail 2)) ?_
          by_cases he : (i1.fail 2).e = 0 <;> simp [he, i64v]
        · simp [i64v, k0', k0, ek, kl, kl2, hz]
          refine callT_eq [(1000, 1000)] (Err_T v i1) ?_
          by_cases he : i1.e = 0 <;> simp [he, i64v]
  · rcases hh with ⟨h1, rfl, a, b, rfl⟩ | ⟨h1, vh, rfl, rfl⟩
    · exact VLx.sub [(1000, v, inB i.heap.1)] (by simp) (VLx.done (.inl ⟨h1, rfl, rfl⟩))
    · exact VLx.done (.inr ⟨h1, vh, rfl, rfl⟩)
end Go.Proofs.YtnkdkajllmopaaaGreat.TL
namespace Go.Proofs.YtnkdkajllmopaaaGreat.TL
open Go
set_option linter.unusedVariables false
set_option linter.unusedSimpArgs false

/-- A reader behind k counts; the k-th count. -/
def eK (i : In) : Nat → In
  | 0 => i
  | k + 1 => ((eK i k).count 1099511627776).1
def eV (i : In) (k j : Nat) : Int := if j < k then ((eK i j).count 1099511627776).2 else 0
/-- A world, read. -/
def In.wd (i : In) : In × Wd :=
  let t := i.count 1099511627776
  let d := t.1.num
  let h := d.1.heap
  let b := h.1.tab
  let r := b.1.count 1099511627776
  ((eK r.1 6).fin, ⟨b.2, r.2, eV r.1 6 0, eV r.1 6 1, eV r.1 6 2, eV r.1 6 3, eV r.1 6 4, eV r.1 6 5, t.2, 255, h.2, d.2⟩)
theorem fail_bad {i : In} (h : ¬ i.e = 0) (x : Int) : ¬ (i.fail x).e = 0 := by unfold In.fail; rw [if_neg fun h' => h h'.1]; exact h
theorem num_bad {i : In} (h : ¬ i.e = 0) : i.num = (i, 0) := by unfold In.num; rw [if_pos h]
theorem count_bad {i : In} (h : ¬ i.e = 0) (m : Int) : ¬ (i.count m).1.e = 0 := by
  unfold In.count
  rw [num_bad h]
  split
  · exact fail_bad h 3
  · exact h
theorem eK_bad {i : In} (h : ¬ i.e = 0) : ∀ k, ¬ (eK i k).e = 0
  | 0 => h
  | k + 1 => count_bad (eK_bad h k) _
theorem fin_bad {i : In} (h : ¬ i.e = 0) : ¬ i.fin.e = 0 := by
  unfold In.fin
  split
  · exact fail_bad h 2
  · exact h
theorem units_bad : ∀ (n : Nat) (i : In) (last next : Int) (l : List Un), ¬ i.e = 0 → ¬ (In.units n i last next l).1.e = 0
  | 0, i, _, _, l, h => h
  | n + 1, i, last, next, l, h => by
    rw [In.units, if_pos h]
    exact h
theorem tab_bad {i : In} (h : ¬ i.e = 0) : ¬ i.tab.1.e = 0 := by
  have h1 := count_bad h 1099511627776
  have h2 := count_bad h1 64
  have h3 := units_bad ((i.count 1099511627776).1.count 64).2.toNat _ 0 (i.count 1099511627776).2 [] h2
  unfold In.tab
  simp only
  split
  · exact fail_bad h3 4
  · exact h3

set_option maxHeartbeats 8000000 in
set_option maxRecDepth 100000 in
theorem WRst_0 (I : List Fn) (hI : I.length ≤ 1000000) (hc : chkV I = 0) (s : List UInt8) : callT Tryz.prog 93 [.agg [.isl (rowFn I) I.length], .v (.string (bs s))] ⟨[], []⟩ (fun r h => ((In.wd ⟨s, 0⟩).1.e ≠ 0 ∧ r = .tup [.v (.pointer none), i64c (In.wd ⟨s, 0⟩).1.e]) ∨
    ((In.wd ⟨s, 0⟩).1.e = 0 ∧ ∃ w m hv d t u, r = .tup [.at 2001 w 0, i64c 0] ∧ h =
      [(2001, w, ⟨0, [.at 2102 t 0, i64v (In.wd ⟨s, 0⟩).2.refused, i64v (In.wd ⟨s, 0⟩).2.e0, i64v (In.wd ⟨s, 0⟩).2.e1, i64v (In.wd ⟨s, 0⟩).2.e2, i64v (In.wd ⟨s, 0⟩).2.e3, i64v (In.wd ⟨s, 0⟩).2.e4, i64v (In.wd ⟨s, 0⟩).2.e5, .at 2004 m 0, i64v (In.wd ⟨s, 0⟩).2.turn, i64v 255]⟩),
       (2004, m, ⟨0, [.at 2105 hv 0, .at 2106 d 0, .isl (rowFn I) I.length, .ifc 167 (.agg [.at 2001 w 0])]⟩), (2106, d, ⟨0, [.v (.int .u64 (In.wd ⟨s, 0⟩).2.dice)]⟩), (2105, hv, ⟨0, (In.wd ⟨s, 0⟩).2.heap.map i64v⟩),
       (2102, t, ⟨0, [.sl 2103 u 0 (In.wd ⟨s, 0⟩).2.tab.l.length, i64v (In.wd ⟨s, 0⟩).2.tab.next]⟩), (2103, u, ⟨6, rowU (In.wd ⟨s, 0⟩).2.tab.l⟩)])) := by
  refine callT_of_body [0, 1, 2, 4, 5, 6, 7, 8, 9, 10, 17, 54, 55, 69] [2001, 2004, 2106, 2105, 2102, 2103] Tryz.func93 rfl (by decide) (by kernel_rfl) rfl ?_
  have hN := WNew_T I hI 0 hc
  simp only [u64c, i64c] at hN
  simp
  intro v2
  refine callT_exa [(2001, 2001), (2002, 2002), (2003, 2003), (2004, 2004), (2005, 2005), (2006, 2006)] hN ?_
  simp [i64v, i64c]
  intro V u0
  have hW0 : (wd0 0).refused = 0 ∧ (wd0 0).e0 = 0 ∧ (wd0 0).e1 = 0 ∧ (wd0 0).e2 = 0 ∧ (wd0 0).e3 = 0 ∧ (wd0 0).e4 = 0 ∧ (wd0 0).e5 = 0 ∧ (wd0 0).turn = 0 ∧ (wd0 0).player = 255 := by decide
  generalize wd0 0 = W0 at hW0 ⊢
  refine callT_ex [(5, 1500)] (Open_T s) ?_
  simp [i64v]
  intro vi
  refine callT_eq [(1000, 1500)] (Count_T vi ⟨s, 0⟩ 1099511627776 (by decide)) ?_
  simp [i64v]
  obtain ⟨i1, hi1⟩ : ∃ i1, i1 = (In.count ⟨s, 0⟩ 1099511627776).1 := ⟨_, rfl⟩
  obtain ⟨tn, htn⟩ : ∃ tn, tn = (In.count ⟨s, 0⟩ 1099511627776).2 := ⟨_, rfl⟩
  obtain ⟨dn, hdn⟩ : ∃ dn, dn = i1.num := ⟨_, rfl⟩
  obtain ⟨i2, dc⟩ := dn
  have hNu := Num_T vi i1
  have hDN := DNew_T dc
  obtain ⟨hp, hhp⟩ : ∃ hp, hp = i2.heap := ⟨_, rfl⟩
  obtain ⟨tb, htb⟩ : ∃ tb, tb = hp.1.tab := ⟨_, rfl⟩
  obtain ⟨rf, hrf⟩ : ∃ rf, rf = (tb.1.count 1099511627776).2 := ⟨_, rfl⟩
  obtain ⟨ri, hri⟩ : ∃ ri, ri = (tb.1.count 1099511627776).1 := ⟨_, rfl⟩
  have hwe : (In.wd ⟨s, 0⟩).1 = (eK ri 6).fin := by
    simp only [In.wd, ← hi1, ← htn, ← hdn, ← hhp, ← htb, ← hrf, ← hri]
  have hwd' : (In.wd ⟨s, 0⟩).2 = ⟨tb.2, rf, eV ri 6 0, eV ri 6 1, eV ri 6 2, eV ri 6 3, eV ri 6 4, eV ri 6 5, tn, 255, hp.2, dc⟩ := by
    simp only [In.wd, ← hi1, ← htn, ← hdn, ← hhp, ← htb, ← hrf, ← hri]
  have hFR := FRead_T vi i2
  have hTR := Read8_T vi hp.1
  rw [← hhp] at hFR
  rw [← htb] at hTR
  rw [← hdn] at hNu
  simp only [u64c] at hDN
  have hwd := hwd'
  simp only [← hi1, ← htn]
  refine draw_g [0, 1, 2, 3, 4, 5, 6] 7 [(5, [4]), (6, [4, 5])] (by kernel_rfl) (by kernel_rfl) (by kernel_rfl) ?_
  simp [i64v]
  refine callT_eq [(1000, 1500)] hNu ?_
  simp [i64v]
  refine callT_ex [(5, 2106)] hDN ?_
  simp [i64v]
  intro vd
  by_cases hh : hp.1.e = 0
  · have hFR1 : callT Tryz.prog 107 [.at 1000 vi 0] ⟨[], [(1000, vi, inB i2)]⟩ (fun r h => ∃ vh, r = .at 3 vh 0 ∧ h = [(1000, vi, inB hp.1), (3, vh, ⟨0, hp.2.map i64v⟩)]) := callT.mono hFR fun r h hk => by
      rcases hk with ⟨h1, -⟩ | ⟨-, hk⟩
      · exact absurd hh h1
      · exact VLx.done hk
    refine draw_g [0, 1, 2, 3, 4, 5] 6 [(5, [4])] (by kernel_rfl) (by kernel_rfl) (by kernel_rfl) ?_
    simp [i64v]
    refine callT_ex [(1000, 1500), (3, 2105)] hFR1 ?_
    simp [i64v]
    intro vh
    by_cases ht : tb.1.e = 0
    · have hTR1 : callT Tryz.prog 108 [.at 1000 vi 0] ⟨[], [(1000, vi, inB hp.1)]⟩ (fun r h => ∃ vt u, r = .at 11 vt 0 ∧ h = [(1000, vi, inB tb.1), (11, vt, ⟨0, [.sl 1001 u 0 tb.2.l.length, i64v tb.2.next]⟩), (1001, u, ⟨6, rowU tb.2.l⟩)]) := callT.mono hTR fun r h hk => by
        rcases hk with ⟨h1, -⟩ | ⟨-, hk⟩
        · exact absurd ht h1
        · exact VLx.done hk
      refine callT_ex2 [(1000, 1500), (11, 2102), (1001, 2103)] hTR1 ?_
      simp [i64v]
      intro vt vu
      refine callT_eq [(1000, 1500)] (Count_T vi tb.1 1099511627776 (by decide)) ?_
      simp only [← hri, ← hrf]
      simp [i64v]
      refine ⟨Nat, fun k => k ≤ 6, fun k => ⟨[(6, .at 2001 V.w 0), (8, .at 1500 vi 0), (54, i64v k)],
        [(2001, V.w, ⟨0, [.at 2102 vt 0, i64v rf, i64v (eV ri k 0), i64v (eV ri k 1), i64v (eV ri k 2), i64v (eV ri k 3), i64v (eV ri k 4), i64v (eV ri k 5), .at 2004 V.m 0, i64v tn, i64v 255]⟩),
         (2004, V.m, ⟨0, [.at 2105 vh 0, .at 2106 vd 0, .isl (rowFn I) I.length, hostV V]⟩), (2106, vd, ⟨0, [u64c dc]⟩), (1500, vi, inB (eK ri k))] ++ [(2105, vh, ⟨0, hp.2.map i64v⟩), (2102, vt, ⟨0, [.sl 2103 vu 0 tb.2.l.length, i64v tb.2.next]⟩), (2103, vu, ⟨6, rowU tb.2.l⟩)]⟩, fun k => 6 - k, ?_, ?_⟩
      · exact SLx.fin _ ⟨0, by decide, rfl⟩ (by simp [i64v]) (by simp [i64v, eK, eV, u64c, hW0])
      intro k hk
      by_cases g : k < 6
      · have hk6 : k = 0 ∨ k = 1 ∨ k = 2 ∨ k = 3 ∨ k = 4 ∨ k = 5 := by omega
        rcases hk6 with rfl | rfl | rfl | rfl | rfl | rfl
        · simp [i64v]
          refine draw_g [0, 1, 2, 4, 5, 6, 3] 7 [(3, [2])] (by kernel_rfl) (by kernel_rfl) (by kernel_rfl) ?_
          simp [i64v]
          refine callT_eq [(1000, 1500)] (Count_T vi (eK ri 0) 1099511627776 (by decide)) ?_
          simp [i64v]
          exact SLx.again 1 (by decide) (by decide) (by simp [i64v, show IntKind.i64.wrap 1 = 1 by decide]) (by simp [i64v, eK, eV])
        · simp [i64v]
          refine draw_g [0, 1, 2, 4, 5, 6, 3] 7 [(3, [2])] (by kernel_rfl) (by kernel_rfl) (by kernel_rfl) ?_
          simp [i64v]
          refine callT_eq [(1000, 1500)] (Count_T vi (eK ri 1) 1099511627776 (by decide)) ?_
          simp [i64v]
          exact SLx.again 2 (by decide) (by decide) (by simp [i64v, show IntKind.i64.wrap 2 = 2 by decide]) (by simp [i64v, eK, eV])
        · simp [i64v]
          refine draw_g [0, 1, 2, 4, 5, 6, 3] 7 [(3, [2])] (by kernel_rfl) (by kernel_rfl) (by kernel_rfl) ?_
          simp [i64v]
          refine callT_eq [(1000, 1500)] (Count_T vi (eK ri 2) 1099511627776 (by decide)) ?_
          simp [i64v]
          exact SLx.again 3 (by decide) (by decide) (by simp [i64v, show IntKind.i64.wrap 3 = 3 by decide]) (by simp [i64v, eK, eV])
        · simp [i64v]
          refine draw_g [0, 1, 2, 4, 5, 6, 3] 7 [(3, [2])] (by kernel_rfl) (by kernel_rfl) (by kernel_rfl) ?_
          simp [i64v]
          refine callT_eq [(1000, 1500)] (Count_T vi (eK ri 3) 1099511627776 (by decide)) ?_
          simp [i64v]
          exact SLx.again 4 (by decide) (by decide) (by simp [i64v, show IntKind.i64.wrap 4 = 4 by decide]) (by simp [i64v, eK, eV])
        · simp [i64v]
          refine draw_g [0, 1, 2, 4, 5, 6, 3] 7 [(3, [2])] (by kernel_rfl) (by kernel_rfl) (by kernel_rfl) ?_
          simp [i64v]
          refine callT_eq [(1000, 1500)] (Count_T vi (eK ri 4) 1099511627776 (by decide)) ?_
          simp [i64v]
          exact SLx.again 5 (by decide) (by decide) (by simp [i64v, show IntKind.i64.wrap 5 = 5 by decide]) (by simp [i64v, eK, eV])
        · simp [i64v]
          refine draw_g [0, 1, 2, 4, 5, 6, 3] 7 [(3, [2])] (by kernel_rfl) (by kernel_rfl) (by kernel_rfl) ?_
          simp [i64v]
          refine callT_eq [(1000, 1500)] (Count_T vi (eK ri 5) 1099511627776 (by decide)) ?_
          simp [i64v]
          exact SLx.again 6 (by decide) (by decide) (by simp [i64v, show IntKind.i64.wrap 6 = 6 by decide]) (by simp [i64v, eK, eV])
      · have hk6 : k = 6 := by omega
        subst hk6
        simp [i64v]
        refine callT_eq [(1000, 1500)] (End_T vi (eK ri 6)) ?_
        by_cases he : (eK ri 6).fin.e = 0
        · simp [he, i64v, i64c, hwd, hwe, u64c]
          exact ⟨V.m, vh, vd, vt, ⟨rfl, rfl⟩, ⟨rfl, rfl, rfl⟩, rfl, rfl, rfl⟩
        · simp [he, i64v, i64c, hwe]

    · have hTR1 : callT Tryz.prog 108 [.at 1000 vi 0] ⟨[], [(1000, vi, inB hp.1)]⟩ (fun r h => r = .v (.pointer none) ∧ h = [(1000, vi, inB tb.1)]) := callT.mono hTR fun r h hk => by
        rcases hk with ⟨-, hk⟩ | ⟨h1, -⟩
        · exact VLx.done hk
        · exact absurd h1 ht
      have hbad : ¬ ri.e = 0 := hri ▸ count_bad ht _
      refine callT_eq [(1000, 1500)] hTR1 ?_
      simp [i64v]
      refine callT_eq [(1000, 1500)] (Count_T vi tb.1 1099511627776 (by decide)) ?_
      simp only [← hri, ← hrf]
      simp [i64v]
      refine ⟨Nat, fun k => k ≤ 6, fun k => ⟨[(6, .at 2001 V.w 0), (8, .at 1500 vi 0), (54, i64v k)],
        [(2001, V.w, ⟨0, [.v (.pointer none), i64v rf, i64v (eV ri k 0), i64v (eV ri k 1), i64v (eV ri k 2), i64v (eV ri k 3), i64v (eV ri k 4), i64v (eV ri k 5), .at 2004 V.m 0, i64v tn, i64v 255]⟩),
         (2004, V.m, ⟨0, [.at 2105 vh 0, .at 2106 vd 0, .isl (rowFn I) I.length, hostV V]⟩), (2106, vd, ⟨0, [u64c dc]⟩), (1500, vi, inB (eK ri k))] ++ [(2105, vh, ⟨0, hp.2.map i64v⟩)]⟩, fun k => 6 - k, ?_, ?_⟩
      · exact SLx.fin _ ⟨0, by decide, rfl⟩ (by simp [i64v]) (by simp [i64v, eK, eV, u64c, hW0])
      intro k hk
      by_cases g : k < 6
      · have hk6 : k = 0 ∨ k = 1 ∨ k = 2 ∨ k = 3 ∨ k = 4 ∨ k = 5 := by omega
        rcases hk6 with rfl | rfl | rfl | rfl | rfl | rfl
        · simp [i64v]
          refine draw_g [0, 1, 2, 4, 5, 6, 3] 7 [(3, [2])] (by kernel_rfl) (by kernel_rfl) (by kernel_rfl) ?_
          simp [i64v]
          refine callT_eq [(1000, 1500)] (Count_T vi (eK ri 0) 1099511627776 (by decide)) ?_
          simp [i64v]
          exact SLx.again 1 (by decide) (by decide) (by simp [i64v, show IntKind.i64.wrap 1 = 1 by decide]) (by simp [i64v, eK, eV])
        · simp [i64v]
          refine draw_g [0, 1, 2, 4, 5, 6, 3] 7 [(3, [2])] (by kernel_rfl) (by kernel_rfl) (by kernel_rfl) ?_
          simp [i64v]
          refine callT_eq [(1000, 1500)] (Count_T vi (eK ri 1) 1099511627776 (by decide)) ?_
          simp [i64v]
          exact SLx.again 2 (by decide) (by decide) (by simp [i64v, show IntKind.i64.wrap 2 = 2 by decide]) (by simp [i64v, eK, eV])
        · simp [i64v]
          refine draw_g [0, 1, 2, 4, 5, 6, 3] 7 [(3, [2])] (by kernel_rfl) (by kernel_rfl) (by kernel_rfl) ?_
          simp [i64v]
          refine callT_eq [(1000, 1500)] (Count_T vi (eK ri 2) 1099511627776 (by decide)) ?_
          simp [i64v]
          exact SLx.again 3 (by decide) (by decide) (by simp [i64v, show IntKind.i64.wrap 3 = 3 by decide]) (by simp [i64v, eK, eV])
        · simp [i64v]
          refine draw_g [0, 1, 2, 4, 5, 6, 3] 7 [(3, [2])] (by kernel_rfl) (by kernel_rfl) (by kernel_rfl) ?_
          simp [i64v]
          refine callT_eq [(1000, 1500)] (Count_T vi (eK ri 3) 1099511627776 (by decide)) ?_
          simp [i64v]
          exact SLx.again 4 (by decide) (by decide) (by simp [i64v, show IntKind.i64.wrap 4 = 4 by decide]) (by simp [i64v, eK, eV])
        · simp [i64v]
          refine draw_g [0, 1, 2, 4, 5, 6, 3] 7 [(3, [2])] (by kernel_rfl) (by kernel_rfl) (by kernel_rfl) ?_
          simp [i64v]
          refine callT_eq [(1000, 1500)] (Count_T vi (eK ri 4) 1099511627776 (by decide)) ?_
          simp [i64v]
          exact SLx.again 5 (by decide) (by decide) (by simp [i64v, show IntKind.i64.wrap 5 = 5 by decide]) (by simp [i64v, eK, eV])
        · simp [i64v]
          refine draw_g [0, 1, 2, 4, 5, 6, 3] 7 [(3, [2])] (by kernel_rfl) (by kernel_rfl) (by kernel_rfl) ?_
          simp [i64v]
          refine callT_eq [(1000, 1500)] (Count_T vi (eK ri 5) 1099511627776 (by decide)) ?_
          simp [i64v]
          exact SLx.again 6 (by decide) (by decide) (by simp [i64v, show IntKind.i64.wrap 6 = 6 by decide]) (by simp [i64v, eK, eV])
      · have hk6 : k = 6 := by omega
        subst hk6
        simp [i64v]
        refine callT_eq [(1000, 1500)] (End_T vi (eK ri 6)) ?_
        have he : ¬ (eK ri 6).fin.e = 0 := fin_bad (eK_bad hbad 6)
        simp [he, i64v, i64c, hwe]

  · have hFR1 : callT Tryz.prog 107 [.at 1000 vi 0] ⟨[], [(1000, vi, inB i2)]⟩ (fun r h => r = .v (.pointer none) ∧ h = [(1000, vi, inB hp.1)]) := callT.mono hFR fun r h hk => by
      rcases hk with ⟨-, hk⟩ | ⟨h1, -⟩
      · exact VLx.done hk
      · exact absurd h1 hh
    have ht : ¬ tb.1.e = 0 := htb ▸ tab_bad hh
    have hTR1 : callT Tryz.prog 108 [.at 1000 vi 0] ⟨[], [(1000, vi, inB hp.1)]⟩ (fun r h => r = .v (.pointer none) ∧ h = [(1000, vi, inB tb.1)]) := callT.mono hTR fun r h hk => by
      rcases hk with ⟨-, hk⟩ | ⟨h1, -⟩
      · exact VLx.done hk
      · exact absurd h1 ht
    have hbad : ¬ ri.e = 0 := hri ▸ count_bad ht _
    refine draw_g [0, 1, 2, 3, 4, 5] 6 [(5, [4])] (by kernel_rfl) (by kernel_rfl) (by kernel_rfl) ?_
    simp [i64v]
    refine callT_eq [(1000, 1500)] hFR1 ?_
    simp [i64v]
    refine callT_eq [(1000, 1500)] hTR1 ?_
    simp [i64v]
    refine callT_eq [(1000, 1500)] (Count_T vi tb.1 1099511627776 (by decide)) ?_
    simp only [← hri, ← hrf]
    simp [i64v]
    refine ⟨Nat, fun k => k ≤ 6, fun k => ⟨[(6, .at 2001 V.w 0), (8, .at 1500 vi 0), (54, i64v k)],
      [(2001, V.w, ⟨0, [.v (.pointer none), i64v rf, i64v (eV ri k 0), i64v (eV ri k 1), i64v (eV ri k 2), i64v (eV ri k 3), i64v (eV ri k 4), i64v (eV ri k 5), .at 2004 V.m 0, i64v tn, i64v 255]⟩),
       (2004, V.m, ⟨0, [.v (.pointer none), .at 2106 vd 0, .isl (rowFn I) I.length, hostV V]⟩), (2106, vd, ⟨0, [u64c dc]⟩), (1500, vi, inB (eK ri k))]⟩, fun k => 6 - k, ?_, ?_⟩
    · exact SLx.fin _ ⟨0, by decide, rfl⟩ (by simp [i64v]) (by simp [i64v, eK, eV, u64c, hW0])
    intro k hk
    by_cases g : k < 6
    · have hk6 : k = 0 ∨ k = 1 ∨ k = 2 ∨ k = 3 ∨ k = 4 ∨ k = 5 := by omega
      rcases hk6 with rfl | rfl | rfl | rfl | rfl | rfl
      · simp [i64v]
        refine draw_g [0, 1, 2, 4, 5, 6, 3] 7 [(3, [2])] (by kernel_rfl) (by kernel_rfl) (by kernel_rfl) ?_
        simp [i64v]
        refine callT_eq [(1000, 1500)] (Count_T vi (eK ri 0) 1099511627776 (by decide)) ?_
        simp [i64v]
        exact SLx.again 1 (by decide) (by decide) (by simp [i64v, show IntKind.i64.wrap 1 = 1 by decide]) (by simp [i64v, eK, eV])
      · simp [i64v]
        refine draw_g [0, 1, 2, 4, 5, 6, 3] 7 [(3, [2])] (by kernel_rfl) (by kernel_rfl) (by kernel_rfl) ?_
        simp [i64v]
        refine callT_eq [(1000, 1500)] (Count_T vi (eK ri 1) 1099511627776 (by decide)) ?_
        simp [i64v]
        exact SLx.again 2 (by decide) (by decide) (by simp [i64v, show IntKind.i64.wrap 2 = 2 by decide]) (by simp [i64v, eK, eV])
      · simp [i64v]
        refine draw_g [0, 1, 2, 4, 5, 6, 3] 7 [(3, [2])] (by kernel_rfl) (by kernel_rfl) (by kernel_rfl) ?_
        simp [i64v]
        refine callT_eq [(1000, 1500)] (Count_T vi (eK ri 2) 1099511627776 (by decide)) ?_
        simp [i64v]
        exact SLx.again 3 (by decide) (by decide) (by simp [i64v, show IntKind.i64.wrap 3 = 3 by decide]) (by simp [i64v, eK, eV])
      · simp [i64v]
        refine draw_g [0, 1, 2, 4, 5, 6, 3] 7 [(3, [2])] (by kernel_rfl) (by kernel_rfl) (by kernel_rfl) ?_
        simp [i64v]
        refine callT_eq [(1000, 1500)] (Count_T vi (eK ri 3) 1099511627776 (by decide)) ?_
        simp [i64v]
        exact SLx.again 4 (by decide) (by decide) (by simp [i64v, show IntKind.i64.wrap 4 = 4 by decide]) (by simp [i64v, eK, eV])
      · simp [i64v]
        refine draw_g [0, 1, 2, 4, 5, 6, 3] 7 [(3, [2])] (by kernel_rfl) (by kernel_rfl) (by kernel_rfl) ?_
        simp [i64v]
        refine callT_eq [(1000, 1500)] (Count_T vi (eK ri 4) 1099511627776 (by decide)) ?_
        simp [i64v]
        exact SLx.again 5 (by decide) (by decide) (by simp [i64v, show IntKind.i64.wrap 5 = 5 by decide]) (by simp [i64v, eK, eV])
      · simp [i64v]
        refine draw_g [0, 1, 2, 4, 5, 6, 3] 7 [(3, [2])] (by kernel_rfl) (by kernel_rfl) (by kernel_rfl) ?_
        simp [i64v]
        refine callT_eq [(1000, 1500)] (Count_T vi (eK ri 5) 1099511627776 (by decide)) ?_
        simp [i64v]
        exact SLx.again 6 (by decide) (by decide) (by simp [i64v, show IntKind.i64.wrap 6 = 6 by decide]) (by simp [i64v, eK, eV])
    · have hk6 : k = 6 := by omega
      subst hk6
      simp [i64v]
      refine callT_eq [(1000, 1500)] (End_T vi (eK ri 6)) ?_
      have he : ¬ (eK ri 6).fin.e = 0 := fin_bad (eK_bad hbad 6)
      simp [he, i64v, i64c, hwe]


theorem WRst_no (I : List Fn) (hI : I.length ≤ 1000000) (hc : chkV I = 0) (s : List UInt8) (he : (In.wd ⟨s, 0⟩).1.e ≠ 0) : callT Tryz.prog 93 [.agg [.isl (rowFn I) I.length], .v (.string (bs s))] ⟨[], []⟩ (fun r h => r = .tup [.v (.pointer none), i64c (In.wd ⟨s, 0⟩).1.e] ∧ h = []) := by
  refine callT.mono (WRst_0 I hI hc s) fun r h hk => ?_
  rcases hk with ⟨-, rfl⟩ | ⟨h1, -⟩
  · exact VLx.sub [] (by simp) (VLx.done ⟨rfl, rfl⟩)
  · exact absurd h1 he
theorem wd_pl (i : In) : i.wd.2.player = 255 := rfl
theorem WRst_T (I : List Fn) (hI : I.length ≤ 1000000) (hc : chkV I = 0) (s : List UInt8) (he : (In.wd ⟨s, 0⟩).1.e = 0) : callT Tryz.prog 93 [.agg [.isl (rowFn I) I.length], .v (.string (bs s))] ⟨[], []⟩ (fun r h => ∃ x : Vs × Nat, r = .tup [.at 2001 x.1.w 0, i64c 0] ∧ h = wdH x.1 x.2 I (In.wd ⟨s, 0⟩).2) := by
  refine callT.mono (WRst_0 I hI hc s) fun r h hk => ?_
  rcases hk with ⟨h1, -⟩ | ⟨-, w, m, hv, d, t, u, rfl, rfl⟩
  · exact absurd he h1
  · have hp := wd_pl ⟨s, 0⟩
    generalize (In.wd ⟨s, 0⟩).2 = W at hp ⊢
    refine VLx.mv 2102 2002 rfl rfl fun t' => ?_
    refine VLx.mv 2103 2003 rfl rfl fun u' => ?_
    refine VLx.mv 2105 2005 rfl rfl fun h' => ?_
    refine VLx.mv 2106 2006 rfl rfl fun d' => ?_
    refine VLx.sub (wdH ⟨w, t', m, h', d'⟩ u' I W) ?_ (VLx.done ⟨(⟨w, t', m, h', d'⟩, u'), ?_, rfl⟩)
    · simp [i64v, hp]
    · simp [i64c]
end Go.Proofs.YtnkdkajllmopaaaGreat.TL
namespace Go.Proofs.YtnkdkajllmopaaaGreat.TL
open Go
set_option linter.unusedVariables false
set_option linter.unusedSimpArgs false

theorem unzig_rngW {n : Nat} (h : n < 18446744073709551616) : -9223372036854775808 ≤ unzig n ∧ unzig n ≤ 9223372036854775807 := by
  unfold unzig
  split <;> omega
theorem cells_ok : ∀ (n k : Nat) (i : In) (c : List Int), k + n ≤ c.length → (In.cells n k i c).1.e = 0 → i.e = 0 ∧ ∃ xs : List Int, xs.length = n ∧ (∀ x ∈ xs, inI64 x) ∧ (In.cells n k i c).2 = c.take k ++ xs ++ c.drop (k + n) ∧ i.l = nbs (xs.map zig) ++ (In.cells n k i c).1.l
  | 0, k, i, c, hk, h => ⟨h, [], rfl, by simp, by simp [In.cells], by simp [In.cells]⟩
  | n + 1, k, i, c, hk, h => by
    rw [In.cells] at h ⊢
    obtain ⟨h1, xs, h2, h3, h4, h5⟩ := cells_ok n (k + 1) i.int.1 (c.set k i.int.2) (by simp; omega) h
    obtain ⟨h6, h7⟩ := In.int_ok h1
    refine ⟨h6, i.int.2 :: xs, by simp [h2], ?_, ?_, ?_⟩
    · intro x hx
      rcases List.mem_cons.1 hx with rfl | hx
      · exact unzig_rngW i.num_lt
      · exact h3 x hx
    · have hk' : (c.take k).length = k := by simp; omega
      have e1 : (c.set k i.int.2).take (k + 1) = c.take k ++ [i.int.2] := by
        rw [List.set_eq_take_append_cons_drop, if_pos (by omega), List.take_append, hk', List.take_of_length_le (by omega)]
        simp
      have e2 : (c.set k i.int.2).drop (k + 1 + n) = c.drop (k + (n + 1)) := by
        rw [show k + 1 + n = k + (n + 1) by omega, List.drop_set_of_lt (by omega)]
      rw [h4, e1, e2]
      simp
    · rw [h7, h5]
      simp [nbs]
theorem lastC_eq (c : List Int) (n : Nat) : ∀ m, n ≤ m → (∀ j, n ≤ j → j < m → c[j]?.getD 0 = 0) → (n = 0 ∨ c[n - 1]?.getD 0 ≠ 0) → lastC c m = n
  | 0, hm, _, _ => by simp [lastC]; omega
  | m + 1, hm, hz, hn => by
    simp only [lastC]
    by_cases h : n = m + 1
    · subst h
      rw [if_neg (by rcases hn with hn | hn; omega; simpa using hn)]
    · rw [if_pos (hz m (by omega) (by omega))]
      exact lastC_eq c n m (by omega) (fun j h1 h2 => hz j h1 (by omega)) hn
theorem heap_ok {i : In} (h : i.heap.1.e = 0) : i.e = 0 ∧ (∀ x ∈ i.heap.2, inI64 x) ∧ i.l = heapB i.heap.2 ++ i.heap.1.l := by
  obtain ⟨n, hn⟩ : ∃ n : Nat, (i.count 64).2 = n := ⟨(i.count 64).2.toNat, by have := In.count_rng i 64 (by decide); omega⟩
  have hn64 : n ≤ 64 := by have := In.count_rng i 64 (by decide); omega
  have hh : i.heap = (if 0 < n ∧ (In.cells n 0 (i.count 64).1 (List.replicate 64 0)).2[n - 1]?.getD 0 = 0 then (In.cells n 0 (i.count 64).1 (List.replicate 64 0)).1.fail 2 else (In.cells n 0 (i.count 64).1 (List.replicate 64 0)).1, (In.cells n 0 (i.count 64).1 (List.replicate 64 0)).2) := by
    simp only [In.heap, hn]
    simp
  rw [hh] at h ⊢
  have hc : ¬ (0 < n ∧ (In.cells n 0 (i.count 64).1 (List.replicate 64 0)).2[n - 1]?.getD 0 = 0) := fun hc => by
    rw [if_pos hc] at h
    exact In.fail_e (by decide) h
  rw [if_neg hc] at h ⊢
  obtain ⟨h1, xs, h2, h3, h4, h5⟩ := cells_ok n 0 (i.count 64).1 (List.replicate 64 0) (by simp; omega) h
  obtain ⟨h6, h7⟩ := In.count_ok h1
  simp only [List.take_zero, List.nil_append, Nat.zero_add] at h4
  simp only
  rw [h4] at hc ⊢
  have hl : lastC (xs ++ List.drop n (List.replicate 64 0)) 64 = n := by
    refine lastC_eq _ n 64 hn64 (fun j h8 h9 => ?_) ?_
    · rw [List.getElem?_append_right (by omega), List.getElem?_drop, List.getElem?_replicate]
      split <;> rfl
    · by_cases h0 : n = 0
      · exact .inl h0
      · exact .inr fun h' => hc ⟨by omega, h'⟩
  refine ⟨h6, ?_, ?_⟩
  · intro x hx
    rcases List.mem_append.1 hx with hx | hx
    · exact h3 x hx
    · have := List.eq_of_mem_replicate (List.mem_of_mem_drop hx)
      subst this
      simp [inI64]
  · rw [h7, h5, hn]
    simp only [heapB, hl]
    rw [List.take_append_of_le_length (by omega), List.take_of_length_le (by omega)]
    simp
def evs (i : In) (k : Nat) : List Nat := (List.range k).map fun j => ((eK i j).count 1099511627776).2.toNat
theorem eK_ok (i : In) : ∀ k, (eK i k).e = 0 → i.e = 0 ∧ i.l = nbs (evs i k) ++ (eK i k).l
  | 0, h => ⟨h, by simp [evs, eK]⟩
  | k + 1, h => by
    obtain ⟨h1, h2⟩ := In.count_ok (i := eK i k) h
    obtain ⟨h3, h4⟩ := eK_ok i k h1
    refine ⟨h3, ?_⟩
    rw [h4, h2]
    simp [evs, List.range_succ, nbs, eK]
theorem fin_ok {i : In} (h : i.fin.e = 0) : i.e = 0 ∧ i.l = [] := by
  unfold In.fin at h
  split at h
  · exact absurd h (In.fail_e (by decide))
  · rename_i h1; exact ⟨h, Classical.not_not.1 h1⟩
theorem eV_rng (i : In) (k j : Nat) : 0 ≤ eV i k j ∧ eV i k j ≤ 1099511627776 := by
  unfold eV
  split
  · exact In.count_rng _ _ (by decide)
  · omega
/-- What was read is what is written. -/
theorem wd_ok {i : In} (h : i.wd.1.e = 0) : i.l = wdB i.wd.2 ∧ i.wd.2.Ok 1099511627776 ∧ i.wd.2.R := by
  unfold In.wd at h ⊢
  simp only at h ⊢
  obtain ⟨t, ht⟩ : ∃ t, t = i.count 1099511627776 := ⟨_, rfl⟩
  obtain ⟨d, hd⟩ : ∃ d, d = t.1.num := ⟨_, rfl⟩
  obtain ⟨hp, hhp⟩ : ∃ hp, hp = d.1.heap := ⟨_, rfl⟩
  obtain ⟨tb, htb⟩ : ∃ tb, tb = hp.1.tab := ⟨_, rfl⟩
  obtain ⟨r, hr⟩ : ∃ r, r = tb.1.count 1099511627776 := ⟨_, rfl⟩
  simp only [← ht, ← hd, ← hhp, ← htb, ← hr] at h ⊢
  obtain ⟨a1, a2⟩ := fin_ok h
  obtain ⟨b1, b2⟩ := eK_ok r.1 6 a1
  obtain ⟨c1, c2⟩ := In.count_ok (i := tb.1) (m := 1099511627776) (hr ▸ b1)
  obtain ⟨d1, d2, d3⟩ := In.tab_ok (i := hp.1) (htb ▸ c1)
  obtain ⟨e1, e2, e3⟩ := heap_ok (i := d.1) (hhp ▸ d1)
  obtain ⟨f1, f2⟩ := In.num_ok (i := t.1) (hd ▸ e1)
  obtain ⟨g1, g2⟩ := In.count_ok (i := i) (m := 1099511627776) (ht ▸ f1)
  rw [← hr] at c2
  rw [← htb] at d2 d3
  rw [← hhp] at e2 e3
  rw [← hd] at f2
  rw [← ht] at g2
  have hlen : hp.2.length = 64 := by rw [hhp]; exact heap_len _
  have ht1 := In.count_rng i 1099511627776 (by decide)
  have hr1 := In.count_rng tb.1 1099511627776 (by decide)
  rw [← ht] at ht1
  rw [← hr] at hr1
  have hd1 : d.2 < 18446744073709551616 := by rw [hd]; exact t.1.num_lt
  refine ⟨?_, ⟨d2, hlen, ?_, rfl⟩, ⟨by simp only; omega, e2⟩⟩
  · rw [g2, f2, e3, d3, c2, b2, a2]
    simp [wdB, Wd.ends, evs, List.range_succ, eV]
  · intro x hx
    simp only [List.mem_cons, List.not_mem_nil, or_false] at hx
    rcases hx with rfl | rfl | rfl | rfl | rfl | rfl | rfl | rfl
    · exact hr1
    all_goals first | exact eV_rng _ _ _ | exact ht1
end Go.Proofs.YtnkdkajllmopaaaGreat.TL
namespace Go.Proofs.YtnkdkajllmopaaaGreat.TL
open Go
set_option linter.unusedVariables false
set_option linter.unusedSimpArgs false

theorem cells_nb (rest : List UInt8) : ∀ (xs : List Int) (k : Nat) (c : List Int), k + xs.length ≤ c.length → (∀ x ∈ xs, inI64 x) → In.cells xs.length k ⟨nbs (xs.map zig) ++ rest, 0⟩ c = (⟨rest, 0⟩, c.take k ++ xs ++ c.drop (k + xs.length))
  | [], k, c, hk, _ => by simp [In.cells, nbs]
  | x :: xs, k, c, hk, hx => by
    have e1 : nbs ((x :: xs).map zig) ++ rest = nb (zig x) ++ (nbs (xs.map zig) ++ rest) := by simp [nbs]
    have h0 := hx x List.mem_cons_self
    simp only [List.length_cons] at hk ⊢
    rw [e1, In.cells, In.int_nb _ h0.1 h0.2]
    simp only
    rw [cells_nb rest xs (k + 1) (c.set k x) (by simp; omega) fun y hy => hx y (List.mem_cons_of_mem _ hy)]
    have hk' : (c.take k).length = k := by simp; omega
    have e2 : (c.set k x).take (k + 1) = c.take k ++ [x] := by
      rw [List.set_eq_take_append_cons_drop, if_pos (by omega), List.take_append, hk', List.take_of_length_le (by omega)]
      simp
    have e3 : (c.set k x).drop (k + 1 + xs.length) = c.drop (k + (xs.length + 1)) := by
      rw [show k + 1 + xs.length = k + (xs.length + 1) by omega, List.drop_set_of_lt (by omega)]
    rw [e2, e3]
    simp
theorem lastC_zero (c : List Int) : ∀ m j, lastC c m ≤ j → j < m → c[j]?.getD 0 = 0
  | 0, j, _, h => absurd h (Nat.not_lt_zero _)
  | m + 1, j, h, hj => by
    simp only [lastC] at h
    split at h
    · rename_i h0
      by_cases hjm : j = m
      · subst hjm; exact h0
      · exact lastC_zero c m j h (by omega)
    · omega
theorem lastC_ne (c : List Int) : ∀ m, 0 < lastC c m → c[lastC c m - 1]?.getD 0 ≠ 0
  | 0, h => by simp [lastC] at h
  | m + 1, h => by
    simp only [lastC] at h ⊢
    split at h
    · rename_i h0
      rw [if_pos h0]
      exact lastC_ne c m h
    · rename_i h0
      rw [if_neg h0]
      simpa using h0
theorem heap_nb (rest : List UInt8) {c : List Int} (hc : c.length = 64) (hx : ∀ x ∈ c, inI64 x) : In.heap ⟨heapB c ++ rest, 0⟩ = (⟨rest, 0⟩, c) := by
  have hle := lastC_le c 64
  obtain ⟨n, hn⟩ : ∃ n, n = lastC c 64 := ⟨_, rfl⟩
  have hz := lastC_zero c 64
  have hne := lastC_ne c 64
  have e1 : heapB c ++ rest = nb n ++ (nbs ((c.take n).map zig) ++ rest) := by simp [heapB, hn]
  rw [← hn] at hle hz hne
  have k1 := In.count_nb (nbs ((c.take n).map zig) ++ rest) (n := n) (m := 64) (by decide) (by omega)
  have hl : (c.take n).length = n := by simp; omega
  have k2 := cells_nb rest (c.take n) 0 (List.replicate 64 0) (by simp; omega) fun x h => hx x (List.mem_of_mem_take h)
  rw [hl] at k2
  have e2 : List.take 0 (List.replicate 64 (0 : Int)) ++ c.take n ++ List.drop (0 + n) (List.replicate 64 0) = c := by
    apply List.ext_getElem
    · simp; omega
    · intro j h1 h2
      simp only [List.take_zero, List.nil_append, Nat.zero_add]
      by_cases hj : j < n
      · rw [List.getElem_append_left (by omega)]; simp
      · rw [List.getElem_append_right (by omega), List.getElem_drop, List.getElem_replicate]
        have := hz j (by omega) (by omega)
        rw [List.getElem?_eq_getElem h2] at this
        exact this.symm
  rw [e2] at k2
  unfold In.heap
  simp only [e1, k1, Int.toNat_natCast, k2]
  rw [if_neg]
  rintro ⟨h1, h2⟩
  exact hne (by omega) h2
theorem eK_nb (rest : List UInt8) (ns : List Nat) (h : ∀ n ∈ ns, (n : Int) ≤ 1099511627776) : ∀ k, k ≤ ns.length → eK ⟨nbs ns ++ rest, 0⟩ k = ⟨nbs (ns.drop k) ++ rest, 0⟩
  | 0, _ => by simp [eK]
  | k + 1, hk => by
    have hd : ns.drop k = ns[k] :: ns.drop (k + 1) := List.drop_eq_getElem_cons (by omega)
    have e1 : nbs (ns.drop k) ++ rest = nb ns[k] ++ (nbs (ns.drop (k + 1)) ++ rest) := by rw [hd]; simp only [nbs, List.map_cons, List.flatten_cons, List.append_assoc]
    have k1 := In.count_nb (nbs (ns.drop (k + 1)) ++ rest) (n := ns[k]) (m := 1099511627776) (by decide) (h _ (List.getElem_mem _))
    unfold eK
    rw [eK_nb rest ns h k (by omega), e1, k1]
theorem eV_nb (rest : List UInt8) (ns : List Nat) (h : ∀ n ∈ ns, (n : Int) ≤ 1099511627776) {k j : Nat} (hj : j < k) (hk : j < ns.length) : eV ⟨nbs ns ++ rest, 0⟩ k j = ns[j] := by
  have hd : ns.drop j = ns[j] :: ns.drop (j + 1) := List.drop_eq_getElem_cons (by omega)
  have e1 : nbs (ns.drop j) ++ rest = nb ns[j] ++ (nbs (ns.drop (j + 1)) ++ rest) := by rw [hd]; simp only [nbs, List.map_cons, List.flatten_cons, List.append_assoc]
  have k1 := In.count_nb (nbs (ns.drop (j + 1)) ++ rest) (n := ns[j]) (m := 1099511627776) (by decide) (h _ (List.getElem_mem _))
  unfold eV
  rw [if_pos hj, eK_nb rest ns h j (by omega), e1, k1]
/-- A world's bytes, read: the world. -/
theorem wd_nb {W : Wd} (h : W.Ok 1099511627776) (hR : W.R) : In.wd ⟨wdB W, 0⟩ = (⟨[], 0⟩, W) := by
  have hs := h.sm
  simp only [List.mem_cons, List.not_mem_nil, or_false, forall_eq_or_imp, forall_eq] at hs
  obtain ⟨s0, s1, s2, s3, s4, s5, s6, s7⟩ := hs
  have hd := hR.d
  have hp := h.pl
  obtain ⟨ns, hns⟩ : ∃ ns, ns = W.ends.map Int.toNat := ⟨_, rfl⟩
  have hnl : ns.length = 6 := by simp [hns, Wd.ends]
  have hnb : ∀ n ∈ ns, (n : Int) ≤ 1099511627776 := fun n hn => by
    simp only [hns, Wd.ends, List.map_cons, List.map_nil, List.mem_cons, List.not_mem_nil, or_false] at hn
    omega
  have e1 : wdB W = nb W.turn.toNat ++ (nb W.dice.toNat ++ (heapB W.heap ++ (tabB W.tab ++ (nb W.refused.toNat ++ (nbs ns ++ []))))) := by simp [wdB, hns]
  have k1 := In.count_nb (nb W.dice.toNat ++ (heapB W.heap ++ (tabB W.tab ++ (nb W.refused.toNat ++ (nbs ns ++ []))))) (n := W.turn.toNat) (m := 1099511627776) (by decide) (by omega)
  have k2 := In.num_nb (heapB W.heap ++ (tabB W.tab ++ (nb W.refused.toNat ++ (nbs ns ++ [])))) (n := W.dice.toNat) (by omega)
  have k3 := heap_nb (tabB W.tab ++ (nb W.refused.toNat ++ (nbs ns ++ []))) h.hp hR.h
  have k4 := In.tab_nb h.wf (nb W.refused.toNat ++ (nbs ns ++ []))
  have k5 := In.count_nb (nbs ns ++ []) (n := W.refused.toNat) (m := 1099511627776) (by decide) (by omega)
  have k6 := eK_nb [] ns hnb 6 (by omega)
  have k7 := fun j (hj : j < 6) => eV_nb [] ns hnb (k := 6) hj (by omega)
  have hdr : ns.drop 6 = [] := List.drop_of_length_le (by omega)
  rw [hdr] at k6
  unfold In.wd
  simp only [e1, k1, k2, k3, k4, k5, k6, k7 0 (by decide), k7 1 (by decide), k7 2 (by decide), k7 3 (by decide), k7 4 (by decide), k7 5 (by decide)]
  obtain ⟨tab, refused, e0, e1, e2, e3, e4, e5, turn, player, heap, dice⟩ := W
  simp only at s0 s1 s2 s3 s4 s5 s6 s7 hd hp
  have hfin : In.fin (⟨nbs [] ++ [], 0⟩ : In) = ⟨[], 0⟩ := by simp [In.fin, nbs]
  rw [hfin]
  simp only [hns, Wd.ends, List.map_cons, List.map_nil, List.getElem_cons_zero, List.getElem_cons_succ]
  simp only [Prod.mk.injEq, Wd.mk.injEq, true_and, and_true]
  omega
theorem ros_nbr (rest : List UInt8) {r : Ros} (hs : r.s < 2 ^ 32) (he : 0 ≤ r.e) (he2 : r.e ≤ 1099511627776) : In.ros ⟨r.bytes ++ rest, 0⟩ = (⟨rest, 0⟩, r) := by
  have e1 : r.bytes ++ rest = nb r.s ++ (nb r.e.toNat ++ rest) := by simp [Ros.bytes]
  have k1 := In.count_nb (nb r.e.toNat ++ rest) (n := r.s) (m := 4294967295) (by decide) (by omega)
  have k2 := In.count_nb rest (n := r.e.toNat) (m := 1099511627776) (by decide) (by omega)
  have e2 : ((r.e.toNat : Nat) : Int) = r.e := by omega
  unfold In.ros
  simp only [e1, k1, k2, e2]
  simp
end Go.Proofs.YtnkdkajllmopaaaGreat.TL
