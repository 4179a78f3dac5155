/- world.Restore. -/
import Derived.Test.YtgkhedmjkahclaaGreatURst
import Derived.Test.YtgkhedmjkahclaaGreatUFold
namespace Go.Proofs.YtgkhedmjkahclaaGreat.TL
open Go
set_option linter.unusedVariables false
set_option linter.unusedSimpArgs false

/-- A reader behind k counts; the k-th count. -/
def eK (i : In) : Nat → In
  | 0 => i
  | k + 1 => ((eK i k).count 1099511627776).1
def eV (i : In) (k j : Nat) : Int := if j < k then ((eK i j).count 1099511627776).2 else 0
/-- A world, read. -/
def In.wd (i : In) : In × Wd :=
  let t := i.count 1099511627776
  let d := t.1.num
  let h := d.1.heap
  let b := h.1.tab
  let r := b.1.count 1099511627776
  ((eK r.1 6).fin, ⟨b.2, r.2, eV r.1 6 0, eV r.1 6 1, eV r.1 6 2, eV r.1 6 3, eV r.1 6 4, eV r.1 6 5, t.2, 255, h.2, d.2⟩)
theorem fail_bad {i : In} (h : ¬ i.e = 0) (x : Int) : ¬ (i.fail x).e = 0 := by unfold In.fail; rw [if_neg fun h' => h h'.1]; exact h
theorem num_bad {i : In} (h : ¬ i.e = 0) : i.num = (i, 0) := by unfold In.num; rw [if_pos h]
theorem count_bad {i : In} (h : ¬ i.e = 0) (m : Int) : ¬ (i.count m).1.e = 0 := by
  unfold In.count
  rw [num_bad h]
  split
  · exact fail_bad h 3
  · exact h
theorem eK_bad {i : In} (h : ¬ i.e = 0) : ∀ k, ¬ (eK i k).e = 0
  | 0 => h
  | k + 1 => count_bad (eK_bad h k) _
theorem fin_bad {i : In} (h : ¬ i.e = 0) : ¬ i.fin.e = 0 := by
  unfold In.fin
  split
  · exact fail_bad h 2
  · exact h
theorem units_bad : ∀ (n : Nat) (i : In) (last next : Int) (l : List Un), ¬ i.e = 0 → ¬ (In.units n i last next l).1.e = 0
  | 0, i, _, _, l, h => h
  | n + 1, i, last, next, l, h => by
    rw [In.units, if_pos h]
    exact h
theorem tab_bad {i : In} (h : ¬ i.e = 0) : ¬ i.tab.1.e = 0 := by
  have h1 := count_bad h 1099511627776
  have h2 := count_bad h1 64
  have h3 := units_bad ((i.count 1099511627776).1.count 64).2.toNat _ 0 (i.count 1099511627776).2 [] h2
  unfold In.tab
  simp only
  split
  · exact fail_bad h3 4
  · exact h3

set_option maxHeartbeats 8000000 in
set_option maxRecDepth 100000 in
theorem WRst_0 (I : List Fn) (hI : I.length ≤ 1000000) (hc : chkV I = 0) (s : List UInt8) : callT Tryz.prog 23 [.agg [.isl (rowFn I) I.length], .v (.string (bs s))] ⟨[], []⟩ (fun r h => ((In.wd ⟨s, 0⟩).1.e ≠ 0 ∧ r = .tup [.v (.pointer none), i64c (In.wd ⟨s, 0⟩).1.e]) ∨
    ((In.wd ⟨s, 0⟩).1.e = 0 ∧ ∃ w m hv d t u, r = .tup [.at 2001 w 0, i64c 0] ∧ h =
      [(2001, w, ⟨0, [.at 2102 t 0, i64v (In.wd ⟨s, 0⟩).2.refused, i64v (In.wd ⟨s, 0⟩).2.e0, i64v (In.wd ⟨s, 0⟩).2.e1, i64v (In.wd ⟨s, 0⟩).2.e2, i64v (In.wd ⟨s, 0⟩).2.e3, i64v (In.wd ⟨s, 0⟩).2.e4, i64v (In.wd ⟨s, 0⟩).2.e5, .at 2004 m 0, i64v (In.wd ⟨s, 0⟩).2.turn, i64v 255]⟩),
       (2004, m, ⟨0, [.at 2105 hv 0, .at 2106 d 0, .isl (rowFn I) I.length, .ifc 108 (.agg [.at 2001 w 0])]⟩), (2106, d, ⟨0, [.v (.int .u64 (In.wd ⟨s, 0⟩).2.dice)]⟩), (2105, hv, ⟨0, (In.wd ⟨s, 0⟩).2.heap.map i64v⟩),
       (2102, t, ⟨0, [.sl 2103 u 0 (In.wd ⟨s, 0⟩).2.tab.l.length, i64v (In.wd ⟨s, 0⟩).2.tab.next]⟩), (2103, u, ⟨6, rowU (In.wd ⟨s, 0⟩).2.tab.l⟩)])) := by
  refine callT_of_body [0, 1, 2, 4, 5, 6, 7, 8, 9, 10, 17, 54, 55, 69] [2001, 2004, 2106, 2105, 2102, 2103] Tryz.func23 rfl (by decide) (by kernel_rfl) rfl ?_
  have hN := WNew_T I hI 0 hc
  simp only [u64c, i64c] at hN
  simp
  intro v2
  refine callT_exa [(2001, 2001), (2002, 2002), (2003, 2003), (2004, 2004), (2005, 2005), (2006, 2006)] hN ?_
  simp [i64v, i64c]
  intro V u0
  have hW0 : (wd0 0).refused = 0 ∧ (wd0 0).e0 = 0 ∧ (wd0 0).e1 = 0 ∧ (wd0 0).e2 = 0 ∧ (wd0 0).e3 = 0 ∧ (wd0 0).e4 = 0 ∧ (wd0 0).e5 = 0 ∧ (wd0 0).turn = 0 ∧ (wd0 0).player = 255 := by decide
  generalize wd0 0 = W0 at hW0 ⊢
  refine callT_ex [(5, 1500)] (Open_T s) ?_
  simp [i64v]
  intro vi
  refine callT_eq [(1000, 1500)] (Count_T vi ⟨s, 0⟩ 1099511627776 (by decide)) ?_
  simp [i64v]
  obtain ⟨i1, hi1⟩ : ∃ i1, i1 = (In.count ⟨s, 0⟩ 1099511627776).1 := ⟨_, rfl⟩
  obtain ⟨tn, htn⟩ : ∃ tn, tn = (In.count ⟨s, 0⟩ 1099511627776).2 := ⟨_, rfl⟩
  obtain ⟨dn, hdn⟩ : ∃ dn, dn = i1.num := ⟨_, rfl⟩
  obtain ⟨i2, dc⟩ := dn
  have hNu := Num_T vi i1
  have hDN := DNew_T dc
  obtain ⟨hp, hhp⟩ : ∃ hp, hp = i2.heap := ⟨_, rfl⟩
  obtain ⟨tb, htb⟩ : ∃ tb, tb = hp.1.tab := ⟨_, rfl⟩
  obtain ⟨rf, hrf⟩ : ∃ rf, rf = (tb.1.count 1099511627776).2 := ⟨_, rfl⟩
  obtain ⟨ri, hri⟩ : ∃ ri, ri = (tb.1.count 1099511627776).1 := ⟨_, rfl⟩
  have hwe : (In.wd ⟨s, 0⟩).1 = (eK ri 6).fin := by
    simp only [In.wd, ← hi1, ← htn, ← hdn, ← hhp, ← htb, ← hrf, ← hri]
  have hwd' : (In.wd ⟨s, 0⟩).2 = ⟨tb.2, rf, eV ri 6 0, eV ri 6 1, eV ri 6 2, eV ri 6 3, eV ri 6 4, eV ri 6 5, tn, 255, hp.2, dc⟩ := by
    simp only [In.wd, ← hi1, ← htn, ← hdn, ← hhp, ← htb, ← hrf, ← hri]
  have hFR := FRead_T vi i2
  have hTR := Read8_T vi hp.1
  rw [← hhp] at hFR
  rw [← htb] at hTR
  rw [← hdn] at hNu
  simp only [u64c] at hDN
  have hwd := hwd'
  simp only [← hi1, ← htn]
  refine draw_g [0, 1, 2, 3, 4, 5, 6] 7 [(5, [4]), (6, [4, 5])] (by kernel_rfl) (by kernel_rfl) (by kernel_rfl) ?_
  simp [i64v]
  refine callT_eq [(1000, 1500)] hNu ?_
  simp [i64v]
  refine callT_ex [(5, 2106)] hDN ?_
  simp [i64v]
  intro vd
  by_cases hh : hp.1.e = 0
  · have hFR1 : callT Tryz.prog 67 [.at 1000 vi 0] ⟨[], [(1000, vi, inB i2)]⟩ (fun r h => ∃ vh, r = .at 3 vh 0 ∧ h = [(1000, vi, inB hp.1), (3, vh, ⟨0, hp.2.map i64v⟩)]) := callT.mono hFR fun r h hk => by
      rcases hk with ⟨h1, -⟩ | ⟨-, hk⟩
      · exact absurd hh h1
      · exact VLx.done hk
    refine draw_g [0, 1, 2, 3, 4, 5] 6 [(5, [4])] (by kernel_rfl) (by kernel_rfl) (by kernel_rfl) ?_
    simp [i64v]
    refine callT_ex [(1000, 1500), (3, 2105)] hFR1 ?_
    simp [i64v]
    intro vh
    by_cases ht : tb.1.e = 0
    · have hTR1 : callT Tryz.prog 68 [.at 1000 vi 0] ⟨[], [(1000, vi, inB hp.1)]⟩ (fun r h => ∃ vt u, r = .at 11 vt 0 ∧ h = [(1000, vi, inB tb.1), (11, vt, ⟨0, [.sl 1001 u 0 tb.2.l.length, i64v tb.2.next]⟩), (1001, u, ⟨6, rowU tb.2.l⟩)]) := callT.mono hTR fun r h hk => by
        rcases hk with ⟨h1, -⟩ | ⟨-, hk⟩
        · exact absurd ht h1
        · exact VLx.done hk
      refine callT_ex2 [(1000, 1500), (11, 2102), (1001, 2103)] hTR1 ?_
      simp [i64v]
      intro vt vu
      refine callT_eq [(1000, 1500)] (Count_T vi tb.1 1099511627776 (by decide)) ?_
      simp only [← hri, ← hrf]
      simp [i64v]
      refine ⟨Nat, fun k => k ≤ 6, fun k => ⟨[(6, .at 2001 V.w 0), (8, .at 1500 vi 0), (54, i64v k)],
        [(2001, V.w, ⟨0, [.at 2102 vt 0, i64v rf, i64v (eV ri k 0), i64v (eV ri k 1), i64v (eV ri k 2), i64v (eV ri k 3), i64v (eV ri k 4), i64v (eV ri k 5), .at 2004 V.m 0, i64v tn, i64v 255]⟩),
         (2004, V.m, ⟨0, [.at 2105 vh 0, .at 2106 vd 0, .isl (rowFn I) I.length, hostV V]⟩), (2106, vd, ⟨0, [u64c dc]⟩), (1500, vi, inB (eK ri k))] ++ [(2105, vh, ⟨0, hp.2.map i64v⟩), (2102, vt, ⟨0, [.sl 2103 vu 0 tb.2.l.length, i64v tb.2.next]⟩), (2103, vu, ⟨6, rowU tb.2.l⟩)]⟩, fun k => 6 - k, ?_, ?_⟩
      · exact SLx.fin _ ⟨0, by decide, rfl⟩ (by simp [i64v]) (by simp [i64v, eK, eV, u64c, hW0])
      intro k hk
      by_cases g : k < 6
      · have hk6 : k = 0 ∨ k = 1 ∨ k = 2 ∨ k = 3 ∨ k = 4 ∨ k = 5 := by omega
        rcases hk6 with rfl | rfl | rfl | rfl | rfl | rfl
        · simp [i64v]
          refine draw_g [0, 1, 2, 4, 5, 6, 3] 7 [(3, [2])] (by kernel_rfl) (by kernel_rfl) (by kernel_rfl) ?_
          simp [i64v]
          refine callT_eq [(1000, 1500)] (Count_T vi (eK ri 0) 1099511627776 (by decide)) ?_
          simp [i64v]
          exact SLx.again 1 (by decide) (by decide) (by simp [i64v, show IntKind.i64.wrap 1 = 1 by decide]) (by simp [i64v, eK, eV])
        · simp [i64v]
          refine draw_g [0, 1, 2, 4, 5, 6, 3] 7 [(3, [2])] (by kernel_rfl) (by kernel_rfl) (by kernel_rfl) ?_
          simp [i64v]
          refine callT_eq [(1000, 1500)] (Count_T vi (eK ri 1) 1099511627776 (by decide)) ?_
          simp [i64v]
          exact SLx.again 2 (by decide) (by decide) (by simp [i64v, show IntKind.i64.wrap 2 = 2 by decide]) (by simp [i64v, eK, eV])
        · simp [i64v]
          refine draw_g [0, 1, 2, 4, 5, 6, 3] 7 [(3, [2])] (by kernel_rfl) (by kernel_rfl) (by kernel_rfl) ?_
          simp [i64v]
          refine callT_eq [(1000, 1500)] (Count_T vi (eK ri 2) 1099511627776 (by decide)) ?_
          simp [i64v]
          exact SLx.again 3 (by decide) (by decide) (by simp [i64v, show IntKind.i64.wrap 3 = 3 by decide]) (by simp [i64v, eK, eV])
        · simp [i64v]
          refine draw_g [0, 1, 2, 4, 5, 6, 3] 7 [(3, [2])] (by kernel_rfl) (by kernel_rfl) (by kernel_rfl) ?_
          simp [i64v]
          refine callT_eq [(1000, 1500)] (Count_T vi (eK ri 3) 1099511627776 (by decide)) ?_
          simp [i64v]
          exact SLx.again 4 (by decide) (by decide) (by simp [i64v, show IntKind.i64.wrap 4 = 4 by decide]) (by simp [i64v, eK, eV])
        · simp [i64v]
          refine draw_g [0, 1, 2, 4, 5, 6, 3] 7 [(3, [2])] (by kernel_rfl) (by kernel_rfl) (by kernel_rfl) ?_
          simp [i64v]
          refine callT_eq [(1000, 1500)] (Count_T vi (eK ri 4) 1099511627776 (by decide)) ?_
          simp [i64v]
          exact SLx.again 5 (by decide) (by decide) (by simp [i64v, show IntKind.i64.wrap 5 = 5 by decide]) (by simp [i64v, eK, eV])
        · simp [i64v]
          refine draw_g [0, 1, 2, 4, 5, 6, 3] 7 [(3, [2])] (by kernel_rfl) (by kernel_rfl) (by kernel_rfl) ?_
          simp [i64v]
          refine callT_eq [(1000, 1500)] (Count_T vi (eK ri 5) 1099511627776 (by decide)) ?_
          simp [i64v]
          exact SLx.again 6 (by decide) (by decide) (by simp [i64v, show IntKind.i64.wrap 6 = 6 by decide]) (by simp [i64v, eK, eV])
      · have hk6 : k = 6 := by omega
        subst hk6
        simp [i64v]
        refine callT_eq [(1000, 1500)] (End_T vi (eK ri 6)) ?_
        by_cases he : (eK ri 6).fin.e = 0
        · simp [he, i64v, i64c, hwd, hwe, u64c]
          exact ⟨V.m, vh, vd, vt, ⟨rfl, rfl⟩, ⟨rfl, rfl, rfl⟩, rfl, rfl, rfl⟩
        · simp [he, i64v, i64c, hwe]

    · have hTR1 : callT Tryz.prog 68 [.at 1000 vi 0] ⟨[], [(1000, vi, inB hp.1)]⟩ (fun r h => r = .v (.pointer none) ∧ h = [(1000, vi, inB tb.1)]) := callT.mono hTR fun r h hk => by
        rcases hk with ⟨-, hk⟩ | ⟨h1, -⟩
        · exact VLx.done hk
        · exact absurd h1 ht
      have hbad : ¬ ri.e = 0 := hri ▸ count_bad ht _
      refine callT_eq [(1000, 1500)] hTR1 ?_
      simp [i64v]
      refine callT_eq [(1000, 1500)] (Count_T vi tb.1 1099511627776 (by decide)) ?_
      simp only [← hri, ← hrf]
      simp [i64v]
      refine ⟨Nat, fun k => k ≤ 6, fun k => ⟨[(6, .at 2001 V.w 0), (8, .at 1500 vi 0), (54, i64v k)],
        [(2001, V.w, ⟨0, [.v (.pointer none), i64v rf, i64v (eV ri k 0), i64v (eV ri k 1), i64v (eV ri k 2), i64v (eV ri k 3), i64v (eV ri k 4), i64v (eV ri k 5), .at 2004 V.m 0, i64v tn, i64v 255]⟩),
         (2004, V.m, ⟨0, [.at 2105 vh 0, .at 2106 vd 0, .isl (rowFn I) I.length, hostV V]⟩), (2106, vd, ⟨0, [u64c dc]⟩), (1500, vi, inB (eK ri k))] ++ [(2105, vh, ⟨0, hp.2.map i64v⟩)]⟩, fun k => 6 - k, ?_, ?_⟩
      · exact SLx.fin _ ⟨0, by decide, rfl⟩ (by simp [i64v]) (by simp [i64v, eK, eV, u64c, hW0])
      intro k hk
      by_cases g : k < 6
      · have hk6 : k = 0 ∨ k = 1 ∨ k = 2 ∨ k = 3 ∨ k = 4 ∨ k = 5 := by omega
        rcases hk6 with rfl | rfl | rfl | rfl | rfl | rfl
        · simp [i64v]
          refine draw_g [0, 1, 2, 4, 5, 6, 3] 7 [(3, [2])] (by kernel_rfl) (by kernel_rfl) (by kernel_rfl) ?_
          simp [i64v]
          refine callT_eq [(1000, 1500)] (Count_T vi (eK ri 0) 1099511627776 (by decide)) ?_
          simp [i64v]
          exact SLx.again 1 (by decide) (by decide) (by simp [i64v, show IntKind.i64.wrap 1 = 1 by decide]) (by simp [i64v, eK, eV])
        · simp [i64v]
          refine draw_g [0, 1, 2, 4, 5, 6, 3] 7 [(3, [2])] (by kernel_rfl) (by kernel_rfl) (by kernel_rfl) ?_
          simp [i64v]
          refine callT_eq [(1000, 1500)] (Count_T vi (eK ri 1) 1099511627776 (by decide)) ?_
          simp [i64v]
          exact SLx.again 2 (by decide) (by decide) (by simp [i64v, show IntKind.i64.wrap 2 = 2 by decide]) (by simp [i64v, eK, eV])
        · simp [i64v]
          refine draw_g [0, 1, 2, 4, 5, 6, 3] 7 [(3, [2])] (by kernel_rfl) (by kernel_rfl) (by kernel_rfl) ?_
          simp [i64v]
          refine callT_eq [(1000, 1500)] (Count_T vi (eK ri 2) 1099511627776 (by decide)) ?_
          simp [i64v]
          exact SLx.again 3 (by decide) (by decide) (by simp [i64v, show IntKind.i64.wrap 3 = 3 by decide]) (by simp [i64v, eK, eV])
        · simp [i64v]
          refine draw_g [0, 1, 2, 4, 5, 6, 3] 7 [(3, [2])] (by kernel_rfl) (by kernel_rfl) (by kernel_rfl) ?_
          simp [i64v]
          refine callT_eq [(1000, 1500)] (Count_T vi (eK ri 3) 1099511627776 (by decide)) ?_
          simp [i64v]
          exact SLx.again 4 (by decide) (by decide) (by simp [i64v, show IntKind.i64.wrap 4 = 4 by decide]) (by simp [i64v, eK, eV])
        · simp [i64v]
          refine draw_g [0, 1, 2, 4, 5, 6, 3] 7 [(3, [2])] (by kernel_rfl) (by kernel_rfl) (by kernel_rfl) ?_
          simp [i64v]
          refine callT_eq [(1000, 1500)] (Count_T vi (eK ri 4) 1099511627776 (by decide)) ?_
          simp [i64v]
          exact SLx.again 5 (by decide) (by decide) (by simp [i64v, show IntKind.i64.wrap 5 = 5 by decide]) (by simp [i64v, eK, eV])
        · simp [i64v]
          refine draw_g [0, 1, 2, 4, 5, 6, 3] 7 [(3, [2])] (by kernel_rfl) (by kernel_rfl) (by kernel_rfl) ?_
          simp [i64v]
          refine callT_eq [(1000, 1500)] (Count_T vi (eK ri 5) 1099511627776 (by decide)) ?_
          simp [i64v]
          exact SLx.again 6 (by decide) (by decide) (by simp [i64v, show IntKind.i64.wrap 6 = 6 by decide]) (by simp [i64v, eK, eV])
      · have hk6 : k = 6 := by omega
        subst hk6
        simp [i64v]
        refine callT_eq [(1000, 1500)] (End_T vi (eK ri 6)) ?_
        have he : ¬ (eK ri 6).fin.e = 0 := fin_bad (eK_bad hbad 6)
        simp [he, i64v, i64c, hwe]

  · have hFR1 : callT Tryz.prog 67 [.at 1000 vi 0] ⟨[], [(1000, vi, inB i2)]⟩ (fun r h => r = .v (.pointer none) ∧ h = [(1000, vi, inB hp.1)]) := callT.mono hFR fun r h hk => by
      rcases hk with ⟨-, hk⟩ | ⟨h1, -⟩
      · exact VLx.done hk
      · exact absurd h1 hh
    have ht : ¬ tb.1.e = 0 := htb ▸ tab_bad hh
    have hTR1 : callT Tryz.prog 68 [.at 1000 vi 0] ⟨[], [(1000, vi, inB hp.1)]⟩ (fun r h => r = .v (.pointer none) ∧ h = [(1000, vi, inB tb.1)]) := callT.mono hTR fun r h hk => by
      rcases hk with ⟨-, hk⟩ | ⟨h1, -⟩
      · exact VLx.done hk
      · exact absurd h1 ht
    have hbad : ¬ ri.e = 0 := hri ▸ count_bad ht _
    refine draw_g [0, 1, 2, 3, 4, 5] 6 [(5, [4])] (by kernel_rfl) (by kernel_rfl) (by kernel_rfl) ?_
    simp [i64v]
    refine callT_eq [(1000, 1500)] hFR1 ?_
    simp [i64v]
    refine callT_eq [(1000, 1500)] hTR1 ?_
    simp [i64v]
    refine callT_eq [(1000, 1500)] (Count_T vi tb.1 1099511627776 (by decide)) ?_
    simp only [← hri, ← hrf]
    simp [i64v]
    refine ⟨Nat, fun k => k ≤ 6, fun k => ⟨[(6, .at 2001 V.w 0), (8, .at 1500 vi 0), (54, i64v k)],
      [(2001, V.w, ⟨0, [.v (.pointer none), i64v rf, i64v (eV ri k 0), i64v (eV ri k 1), i64v (eV ri k 2), i64v (eV ri k 3), i64v (eV ri k 4), i64v (eV ri k 5), .at 2004 V.m 0, i64v tn, i64v 255]⟩),
       (2004, V.m, ⟨0, [.v (.pointer none), .at 2106 vd 0, .isl (rowFn I) I.length, hostV V]⟩), (2106, vd, ⟨0, [u64c dc]⟩), (1500, vi, inB (eK ri k))]⟩, fun k => 6 - k, ?_, ?_⟩
    · exact SLx.fin _ ⟨0, by decide, rfl⟩ (by simp [i64v]) (by simp [i64v, eK, eV, u64c, hW0])
    intro k hk
    by_cases g : k < 6
    · have hk6 : k = 0 ∨ k = 1 ∨ k = 2 ∨ k = 3 ∨ k = 4 ∨ k = 5 := by omega
      rcases hk6 with rfl | rfl | rfl | rfl | rfl | rfl
      · simp [i64v]
        refine draw_g [0, 1, 2, 4, 5, 6, 3] 7 [(3, [2])] (by kernel_rfl) (by kernel_rfl) (by kernel_rfl) ?_
        simp [i64v]
        refine callT_eq [(1000, 1500)] (Count_T vi (eK ri 0) 1099511627776 (by decide)) ?_
        simp [i64v]
        exact SLx.again 1 (by decide) (by decide) (by simp [i64v, show IntKind.i64.wrap 1 = 1 by decide]) (by simp [i64v, eK, eV])
      · simp [i64v]
        refine draw_g [0, 1, 2, 4, 5, 6, 3] 7 [(3, [2])] (by kernel_rfl) (by kernel_rfl) (by kernel_rfl) ?_
        simp [i64v]
        refine callT_eq [(1000, 1500)] (Count_T vi (eK ri 1) 1099511627776 (by decide)) ?_
        simp [i64v]
        exact SLx.again 2 (by decide) (by decide) (by simp [i64v, show IntKind.i64.wrap 2 = 2 by decide]) (by simp [i64v, eK, eV])
      · simp [i64v]
        refine draw_g [0, 1, 2, 4, 5, 6, 3] 7 [(3, [2])] (by kernel_rfl) (by kernel_rfl) (by kernel_rfl) ?_
        simp [i64v]
        refine callT_eq [(1000, 1500)] (Count_T vi (eK ri 2) 1099511627776 (by decide)) ?_
        simp [i64v]
        exact SLx.again 3 (by decide) (by decide) (by simp [i64v, show IntKind.i64.wrap 3 = 3 by decide]) (by simp [i64v, eK, eV])
      · simp [i64v]
        refine draw_g [0, 1, 2, 4, 5, 6, 3] 7 [(3, [2])] (by kernel_rfl) (by kernel_rfl) (by kernel_rfl) ?_
        simp [i64v]
        refine callT_eq [(1000, 1500)] (Count_T vi (eK ri 3) 1099511627776 (by decide)) ?_
        simp [i64v]
        exact SLx.again 4 (by decide) (by decide) (by simp [i64v, show IntKind.i64.wrap 4 = 4 by decide]) (by simp [i64v, eK, eV])
      · simp [i64v]
        refine draw_g [0, 1, 2, 4, 5, 6, 3] 7 [(3, [2])] (by kernel_rfl) (by kernel_rfl) (by kernel_rfl) ?_
        simp [i64v]
        refine callT_eq [(1000, 1500)] (Count_T vi (eK ri 4) 1099511627776 (by decide)) ?_
        simp [i64v]
        exact SLx.again 5 (by decide) (by decide) (by simp [i64v, show IntKind.i64.wrap 5 = 5 by decide]) (by simp [i64v, eK, eV])
      · simp [i64v]
        refine draw_g [0, 1, 2, 4, 5, 6, 3] 7 [(3, [2])] (by kernel_rfl) (by kernel_rfl) (by kernel_rfl) ?_
        simp [i64v]
        refine callT_eq [(1000, 1500)] (Count_T vi (eK ri 5) 1099511627776 (by decide)) ?_
        simp [i64v]
        exact SLx.again 6 (by decide) (by decide) (by simp [i64v, show IntKind.i64.wrap 6 = 6 by decide]) (by simp [i64v, eK, eV])
    · have hk6 : k = 6 := by omega
      subst hk6
      simp [i64v]
      refine callT_eq [(1000, 1500)] (End_T vi (eK ri 6)) ?_
      have he : ¬ (eK ri 6).fin.e = 0 := fin_bad (eK_bad hbad 6)
      simp [he, i64v, i64c, hwe]


theorem WRst_no (I : List Fn) (hI : I.length ≤ 1000000) (hc : chkV I = 0) (s : List UInt8) (he : (In.wd ⟨s, 0⟩).1.e ≠ 0) : callT Tryz.prog 23 [.agg [.isl (rowFn I) I.length], .v (.string (bs s))] ⟨[], []⟩ (fun r h => r = .tup [.v (.pointer none), i64c (In.wd ⟨s, 0⟩).1.e] ∧ h = []) := by
  refine callT.mono (WRst_0 I hI hc s) fun r h hk => ?_
  rcases hk with ⟨-, rfl⟩ | ⟨h1, -⟩
  · exact VLx.sub [] (by simp) (VLx.done ⟨rfl, rfl⟩)
  · exact absurd h1 he
theorem wd_pl (i : In) : i.wd.2.player = 255 := rfl
theorem WRst_T (I : List Fn) (hI : I.length ≤ 1000000) (hc : chkV I = 0) (s : List UInt8) (he : (In.wd ⟨s, 0⟩).1.e = 0) : callT Tryz.prog 23 [.agg [.isl (rowFn I) I.length], .v (.string (bs s))] ⟨[], []⟩ (fun r h => ∃ x : Vs × Nat, r = .tup [.at 2001 x.1.w 0, i64c 0] ∧ h = wdH x.1 x.2 I (In.wd ⟨s, 0⟩).2) := by
  refine callT.mono (WRst_0 I hI hc s) fun r h hk => ?_
  rcases hk with ⟨h1, -⟩ | ⟨-, w, m, hv, d, t, u, rfl, rfl⟩
  · exact absurd he h1
  · have hp := wd_pl ⟨s, 0⟩
    generalize (In.wd ⟨s, 0⟩).2 = W at hp ⊢
    refine VLx.mv 2102 2002 rfl rfl fun t' => ?_
    refine VLx.mv 2103 2003 rfl rfl fun u' => ?_
    refine VLx.mv 2105 2005 rfl rfl fun h' => ?_
    refine VLx.mv 2106 2006 rfl rfl fun d' => ?_
    refine VLx.sub (wdH ⟨w, t', m, h', d'⟩ u' I W) ?_ (VLx.done ⟨(⟨w, t', m, h', d'⟩, u'), ?_, rfl⟩)
    · simp [i64v, hp]
    · simp [i64c]
end Go.Proofs.YtgkhedmjkahclaaGreat.TL
