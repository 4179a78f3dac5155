/- The reference's worlds: read, written. -/
import Derived.Test.YtgkhedmjkahclaaGreatUWdB
import Derived.Test.YtgkhedmjkahclaaGreatUReadR8b
namespace Go.Proofs.YtgkhedmjkahclaaGreat.TL
open Go
set_option linter.unusedVariables false
set_option linter.unusedSimpArgs false

theorem Heap6_T : callT Tryz.prog 100 [] ⟨[], []⟩ (fun r h => ∃ v, r = .sl 1 v 0 64 ∧ h = [(1, v, ⟨1, (List.replicate 64 (0 : Int)).map i64v⟩)]) := by
  refine callT_of_body [0] [1] Tryz.func100 rfl (by decide) (by kernel_rfl) rfl ?_
  simp [i64v]

set_option maxHeartbeats 1000000 in
set_option maxRecDepth 100000 in
theorem ReadR6_T (i : In) : callT Tryz.prog 52 [rIn i] ⟨[], []⟩ (fun r h => r = .tup [rIn i.heap.1, .isl (i.heap.2.map i64v) 64] ∧ h = []) := by
  refine callT.mono (K := fun r h => ∃ v, r = .tup [rIn i.heap.1, .sl 14 v 0 64] ∧ h = [(14, v, ⟨1, i.heap.2.map i64v⟩)]) ?_ fun r h hh => ?_
  · refine callT_of_body [0, 1, 2, 3, 4, 5, 6, 7, 8, 17, 39] [14] Tryz.func52 rfl (by decide) (by kernel_rfl) rfl ?_
    have hcr := In.count_rng i 64 (by decide)
    have hc := TakeCountR_T i 64 (by decide)
    simp only [rIn] at hc
    simp [rIn, -List.reduceReplicate]
    intro v1 v2
    refine callT_eq [] hc ?_
    obtain ⟨n, hn⟩ : ∃ n : Nat, (i.count 64).2 = n := ⟨(i.count 64).2.toNat, by omega⟩
    have hn64 : n ≤ 64 := by omega
    obtain ⟨j0, hj0⟩ : ∃ j, j = (i.count 64).1 := ⟨_, rfl⟩
    have hh : i.heap = (if 0 < n ∧ (In.cells n 0 j0 (List.replicate 64 0)).2[n - 1]?.getD 0 = 0 then (In.cells n 0 j0 (List.replicate 64 0)).1.fail 2 else (In.cells n 0 j0 (List.replicate 64 0)).1, (In.cells n 0 j0 (List.replicate 64 0)).2) := by
      simp only [In.heap, hn, hj0]
      simp
    rw [hh]
    generalize hQ : In.cells n 0 j0 (List.replicate 64 0) = Q
    simp [hn, ← hj0]
    refine callT_ex [(1, 14)] Heap6_T ?_
    simp [i64v]
    intro v14
    refine loopT_of (Nat × In × List Int) (fun x => x.1 ≤ n ∧ x.2.2.length = 64 ∧ In.cells (n - x.1) x.1 x.2.1 x.2.2 = Q) (fun x => ⟨[(1, .at 1 v1 0), (2, .at 2 v2 0), (4, i64v n), (5, .sl 14 v14 0 64), (6, i64v x.1)], [(1, v1, ⟨0, [.v (.string (bs x.2.1.l)), .v (.int .i64 x.2.1.e)]⟩), (2, v2, ⟨0, [.v (.string (bs [])), .v (.int .i64 0)]⟩), (14, v14, ⟨1, x.2.2.map i64v⟩)]⟩) (fun x => n - x.1) (0, j0, List.replicate 64 0) ⟨by simp, by simp, hQ⟩ (by simp [i64v]) (by simp [i64v, bs]) ?_
    rintro ⟨k, i1, c⟩ ⟨hk, hl, hr⟩
    simp only at hk hl hr ⊢
    by_cases g : k < n
    · have g' : (k : Int) < n := by omega
      have ek : IntKind.i64.wrap ((k : Int) + 1) = ((k + 1 : Nat) : Int) := by rw [i64_id (by omega) (by omega)]; rfl
      rw [show n - k = (n - (k + 1)) + 1 by omega, In.cells] at hr
      have hso := set_over (D := c) (k := k) (x := i1.int.2) (by omega)
      simp only [i64v] at hso
      have g64 : (k : Int) < 64 := by omega
      have g64' : k < c.length := by omega
      have g64'' : k < 64 := by omega
      have hI := TakeIntR_T i1
      simp only [rIn] at hI
      simp [i64v, g, g']
      refine callT_eq [] hI ?_
      simp [i64v, g64, g64', g64'']
      intro v7
      exact ⟨by omega, SLx.again (k + 1, i1.int.1, c.set k i1.int.2) ⟨by simp only; omega, by simpa using hl, hr⟩ (by simp only; omega) (by simp [i64v, ek]) (by simp [i64v, hso])⟩
    · have hkn : k = n := by omega
      subst hkn
      simp only [Nat.sub_self, In.cells] at hr
      rw [← hr]
      by_cases k0 : k = 0
      · subst k0
        simp [i64v, rIn]
      · have k0' : 0 < k := by omega
        have kl : k - 1 < c.length := by omega
        have ek : IntKind.i64.wrap ((k : Int) - 1) = ((k - 1 : Nat) : Int) := by rw [i64_id (by omega) (by omega)]; omega
        have kl2 : ((k - 1 : Nat) : Int) < 64 := by omega
        have kl3 : k - 1 < 64 := by omega
        have hF := FailR_T i1 2
        simp only [rIn] at hF
        by_cases hz : c[k - 1] = 0
        · simp [i64v, k0', k0, ek, kl, kl2, kl3, hz]
          refine callT_eq [] hF ?_
          simp [rIn, i64v]
        · simp [i64v, k0', k0, ek, kl, kl2, kl3, hz, rIn]
  · obtain ⟨v, rfl, rfl⟩ := hh
    refine VLx.frz 14 rfl (VLx.done ?_)
    have hl := heap_len i
    have e : List.take 64 (i.heap.2.map i64v) = i.heap.2.map i64v := List.take_of_length_le (by simp [hl])
    simp [rIn, e]
set_option maxHeartbeats 1000000 in
set_option maxRecDepth 100000 in
theorem TextR6_T (c : List Int) (hc : c.length = 64) (hr : ∀ x ∈ c, inI64 x) : callT Tryz.prog 57 [.isl (c.map i64v) 64] ⟨[], []⟩ (fun r h => r = .v (.string (bs (heapB c))) ∧ h = []) := by
  refine callT_of_body [0, 2, 3, 4, 5, 6, 8, 9, 10, 11, 12, 17, 25, 26, 27, 28] [] Tryz.func57 rfl (by decide) (by kernel_rfl) rfl ?_
  simp
  refine loopT_of Nat (fun k => k ≤ 64) (fun k => ⟨[(0, .isl (c.map i64v) 64), (3, i64v (lastC c k)), (9, .isl (c.map i64v) 64), (10, i64v 64), (11, i64v k)], []⟩) (fun k => 64 - k) 0 (by simp) (by simp [i64v, lastC]) (by simp) ?_
  intro k hk
  by_cases g : k < 64
  · have g' : (k : Int) < 64 := by omega
    have gl : k < c.length := by omega
    have ek : IntKind.i64.wrap ((k : Int) + 1) = ((k + 1 : Nat) : Int) := by rw [i64_id (by omega) (by omega)]; rfl
    by_cases hz : c[k] = 0
    · have hl : lastC c (k + 1) = lastC c k := by simp [lastC, gl, hz]
      simp [i64v, g, g', gl, hz, hc]
      exact SLx.again (k + 1) (by omega) (by omega) (by simp [i64v, ek, hl]) (by simp)
    · have hl : lastC c (k + 1) = k + 1 := by simp [lastC, gl, hz]
      simp [i64v, g, g', gl, hz, hc]
      exact SLx.again (k + 1) (by omega) (by omega) (by simp [i64v, ek, hl]) (by simp)
  · have hk64 : k = 64 := by omega
    subst hk64
    have hn := lastC_le c 64
    unfold heapB
    generalize lastC c 64 = n at hn ⊢
    have hC := CountR_T n (by omega)
    simp [i64v]
    refine callT_eq [] hC ?_
    obtain ⟨d, hd⟩ : ∃ d, d = c.take n := ⟨_, rfl⟩
    have htk : List.take n (c.map i64v) = d.map i64v := by rw [hd, List.map_take]
    have hn64 : (n : Int) ≤ 64 := by omega
    have hnl : d.length = n := by rw [hd]; simp; omega
    have hrd : ∀ x ∈ d, inI64 x := fun x hx => hr x (List.mem_of_mem_take (hd ▸ hx))
    simp [i64v, hn64, htk, hc]
    refine loopT_of Nat (fun k => k ≤ n) (fun k => ⟨[(6, .v (.string (bs (nb n ++ nbs ((d.map zig).take k))))), (25, .isl (d.map i64v) n), (26, i64v n), (27, i64v k)], []⟩) (fun k => n - k) 0 (by simp) (by simp [i64v]) (by simp) ?_
    intro k hk
    by_cases g : k < n
    · have g' : (k : Int) < n := by omega
      have gl : k < d.length := by omega
      have ek : IntKind.i64.wrap ((k : Int) + 1) = ((k + 1 : Nat) : Int) := by rw [i64_id (by omega) (by omega)]; rfl
      have hat : List.drop k (d.map i64v) = i64v d[k] :: List.drop (k + 1) (d.map i64v) := by
        rw [List.drop_eq_getElem_cons (by simpa using gl)]; simp
      have hrx := hrd d[k] (List.getElem_mem gl)
      have hk1 : nbs ((d.map zig).take (k + 1)) = nbs ((d.map zig).take k) ++ nb (zig d[k]) := by rw [List.take_succ_eq_append_getElem (by simpa using gl), nbs_snoc]; simp
      generalize d[k] = x at hat hrx hk1
      have hI := IntR_T x hrx.1 hrx.2
      simp only [i64v] at hat
      simp [i64v, g, g', hat]
      refine ⟨by omega, callT_eq [] hI ?_⟩
      simp [i64v]
      have l1 := nb_len10 (n := n) (by omega)
      have l2 := nb_len10 (zig_lt hrx.1 hrx.2)
      have l3 := nbs_len (l := (d.map zig).take k) fun m hm => by
        obtain ⟨y, hy, rfl⟩ := List.mem_map.1 (List.mem_of_mem_take hm)
        exact zig_lt (hrd y hy).1 (hrd y hy).2
      simp only [List.length_take, List.length_map] at l3
      exact ⟨by omega, SLx.again (k + 1) (by omega) (by omega) (by simp [i64v, ek, hk1]) (by simp)⟩
    · have hkn : k = n := by omega
      subst hkn
      have : List.take k (d.map zig) = d.map zig := List.take_of_length_le (by simp; omega)
      simp [i64v, this]
      rw [hd, List.map_take]
def rWdC (W : Wd) : List TV := [i64v W.turn, i64v W.refused, .v (.int .u64 W.dice), .isl (W.heap.map i64v) 64, .isl (rowU W.tab.l) W.tab.l.length, i64v W.tab.next, .isl (W.ends.map i64v) 6]
def evI (i : In) (k : Nat) : List Int := (List.range k).map fun j => ((eK i j).count 1099511627776).2
@[simp] theorem evI_len (i : In) (k : Nat) : (evI i k).length = k := by simp [evI]
theorem evI_succ (i : In) (k : Nat) : evI i (k + 1) = evI i k ++ [((eK i k).count 1099511627776).2] := by simp [evI, List.range_succ]
theorem EndRX_T (i : In) : callT Tryz.prog 54 [rIn i] ⟨[], []⟩ (fun r h => r = i64c i.fin.e ∧ h = []) := by
  refine callT_of_body [0, 1, 2, 10] [] Tryz.func54 rfl (by decide) (by kernel_rfl) rfl ?_
  simp [rIn]
  by_cases he : i.e = 0
  · by_cases hl : i.l = []
    · simp [he, hl, In.fin, i64c, bs_nil]
    · simp [he, hl, In.fin, In.fail, i64c]
  · simp [he, In.fin, In.fail, i64c]
set_option maxHeartbeats 4000000 in
set_option maxRecDepth 100000 in
theorem ReadR10_T (s : List UInt8) : callT Tryz.prog 14 [.v (.string (bs s))] ⟨[], []⟩ (fun r h => r = .tup [.agg (rWdC (In.wd ⟨s, 0⟩).2), i64c (In.wd ⟨s, 0⟩).1.e] ∧ h = []) := by
  refine callT.mono (K := fun r h => ∃ u, r = .tup [.agg [i64v (In.wd ⟨s, 0⟩).2.turn, i64v (In.wd ⟨s, 0⟩).2.refused, .v (.int .u64 (In.wd ⟨s, 0⟩).2.dice), .isl ((In.wd ⟨s, 0⟩).2.heap.map i64v) 64, .isl (rowU (In.wd ⟨s, 0⟩).2.tab.l) (In.wd ⟨s, 0⟩).2.tab.l.length, i64v (In.wd ⟨s, 0⟩).2.tab.next, .sl 64 u 0 6], i64c (In.wd ⟨s, 0⟩).1.e] ∧ h = [(64, u, ⟨1, (In.wd ⟨s, 0⟩).2.ends.map i64v⟩)]) ?_ fun r h hh => ?_
  · refine callT_of_body [0, 2, 3, 4, 5, 6, 7, 8, 9, 10, 11, 12, 13, 14, 50] [64] Tryz.func14 rfl (by decide) (by kernel_rfl) rfl ?_
    obtain ⟨t, ht⟩ : ∃ t, t = In.count ⟨s, 0⟩ 1099511627776 := ⟨_, rfl⟩
    obtain ⟨d, hd⟩ : ∃ d, d = t.1.num := ⟨_, rfl⟩
    obtain ⟨hp, hhp⟩ : ∃ hp, hp = d.1.heap := ⟨_, rfl⟩
    obtain ⟨tb, htb⟩ : ∃ tb, tb = hp.1.tab := ⟨_, rfl⟩
    obtain ⟨rr, hrr⟩ : ∃ r, r = tb.1.count 1099511627776 := ⟨_, rfl⟩
    have h1 := TakeCountR_T ⟨s, 0⟩ 1099511627776 (by decide)
    have h2 := TakeNumR_T t.1
    have h3 := ReadR6_T d.1
    have h4 := ReadR8_T hp.1
    have h5 := TakeCountR_T tb.1 1099511627776 (by decide)
    have hE := EndRX_T (eK rr.1 6)
    have hTC : ∀ k, callT Tryz.prog 50 [rIn (eK rr.1 k), .v (.int .i64 1099511627776)] ⟨[], []⟩ (fun r h => r = .tup [rIn (eK rr.1 (k + 1)), .v (.int .i64 ((eK rr.1 k).count 1099511627776).2)] ∧ h = []) := fun k => TakeCountR_T (eK rr.1 k) 1099511627776 (by decide)
    have hw1 : (In.wd ⟨s, 0⟩).1 = (eK rr.1 6).fin := by simp only [In.wd, ← ht, ← hd, ← hhp, ← htb, ← hrr]
    have hw2 : (In.wd ⟨s, 0⟩).2 = ⟨tb.2, rr.2, eV rr.1 6 0, eV rr.1 6 1, eV rr.1 6 2, eV rr.1 6 3, eV rr.1 6 4, eV rr.1 6 5, t.2, 255, hp.2, d.2⟩ := by simp only [In.wd, ← ht, ← hd, ← hhp, ← htb, ← hrr]
    rw [hw1, hw2]
    rw [← ht] at h1
    rw [← hd] at h2
    rw [← hhp] at h3
    rw [← htb] at h4
    rw [← hrr] at h5
    simp only [rIn, rTab] at h1 h2 h3 h4 h5 hTC hE
    simp
    intro v2
    refine callT_eq [] h1 ?_
    simp [i64v]
    intro v5
    refine callT_eq [] h2 ?_
    simp [i64v]
    refine callT_eq [] h3 ?_
    simp [i64v]
    refine callT_eq [] h4 ?_
    simp [i64v]
    intro v9
    refine callT_eq [] h5 ?_
    simp [i64v]
    intro v11
    refine ⟨Nat × Nat, fun x => x.1 ≤ 6, fun x => ⟨[(2, .at 2 v2 0), (4, i64v 1099511627776), (5, .at 5 v5 0), (11, .at 11 v11 0), (12, i64v x.1)],
      [(2, v2, ⟨0, [i64v 0, i64v 0, .v (.int .u64 0), .v (.slice none 0 0), .v (.slice none 0 0), i64v 0, .v (.slice none 0 0)]⟩), (5, v5, ⟨0, [.v (.string (bs (eK rr.1 x.1).l)), .v (.int .i64 (eK rr.1 x.1).e)]⟩),
       (11, v11, ⟨0, [i64v t.2, i64v rr.2, .v (.int .u64 d.2), .isl (hp.2.map i64v) 64, .isl (rowU tb.2.l) tb.2.l.length, i64v tb.2.next, .sl 64 x.2 0 x.1]⟩), (64, x.2, ⟨1, (evI rr.1 x.1).map i64v⟩)]⟩, fun x => 6 - x.1, ?_, ?_⟩
    · refine SLx.nilCell 11 6 64 1 (by decide) (by decide) rfl rfl fun u => SLx.fin _ ⟨(0, u), by simp, rfl⟩ (by simp [i64v]) (by simp [i64v, eK, evI])
    rintro ⟨k, u⟩ hk
    simp only at hk ⊢
    by_cases g : k < 6
    · have g' : (k : Int) < 6 := by omega
      have ek : IntKind.i64.wrap ((k : Int) + 1) = ((k + 1 : Nat) : Int) := by rw [i64_id (by omega) (by omega)]; rfl
      have htk : List.take k ((evI rr.1 k).map i64v) = (evI rr.1 k).map i64v := List.take_of_length_le (by simp)
      simp [i64v, i64c, g, g']
      refine callT_eq [] (hTC k) ?_
      simp [i64v, i64c]
      exact fun v13 v63 => ⟨by omega, by omega, fun u' => SLx.again (k + 1, u') (by simp only; omega) (by simp only; omega) (by simp [i64v, ek]) (by simp [i64v, evI_succ, htk])⟩
    · have hk6 : k = 6 := by omega
      subst hk6
      simp [i64v, i64c]
      refine draw_g [0, 1, 2] 3 [(2, [1])] (by kernel_rfl) (by kernel_rfl) (by kernel_rfl) ?_
      simp [i64v, i64c]
      refine callT_eq [] hE ?_
      simp [i64v, i64c, evI, List.range_succ, Wd.ends, eV]
  · obtain ⟨u, rfl, rfl⟩ := hh
    refine VLx.frz 64 rfl (VLx.done ?_)
    simp [rWdC, i64v, i64c, Wd.ends]

set_option maxHeartbeats 4000000 in
set_option maxRecDepth 100000 in
theorem TextR10_T (W : Wd) (b : Int) (h : W.Ok b) (hb : b ≤ 4611686018427387903) (hR : W.R) : callT Tryz.prog 15 [.agg (rWdC W)] ⟨[], []⟩ (fun r h => r = .v (.string (bs (wdB W))) ∧ h = []) := by
  refine callT_of_body [0, 1, 2, 3, 4, 25] [] Tryz.func15 rfl (by decide) (by kernel_rfl) rfl ?_
  have hs := h.sm
  simp only [List.mem_cons, List.not_mem_nil, or_false, forall_eq_or_imp, forall_eq] at hs
  obtain ⟨s0, s1, s2, s3, s4, s5, s6, s7⟩ := hs
  have hTn := nb_len10 (n := W.turn.toNat) (by omega)
  have hDn := nb_len10 (n := W.dice.toNat) (by have := hR.d; omega)
  have hHn := heapB_len W.heap hR.h
  have hUn := tabB_len h.wf
  have hRn := nb_len10 (n := W.refused.toNat) (by omega)
  have h1 := CountR_T W.turn (by omega)
  have h2 := NumR_T W.dice.toNat (by have := hR.d; omega)
  have hd : ((W.dice.toNat : Nat) : Int) = W.dice := by have := hR.d; omega
  have h3 := TextR6_T W.heap h.hp hR.h
  have h4 := TextR8_T W.tab h.wf
  have h5 := CountR_T W.refused (by omega)
  have hE : ∀ (k : Nat) (hk : k < W.ends.length), 0 ≤ W.ends[k] ∧ W.ends[k] ≤ b := fun k hk => by
    have : k < 6 := hk
    have hc : k = 0 ∨ k = 1 ∨ k = 2 ∨ k = 3 ∨ k = 4 ∨ k = 5 := by omega
    rcases hc with rfl | rfl | rfl | rfl | rfl | rfl <;> simp [Wd.ends] <;> assumption
  have hl6 : W.ends.length = 6 := rfl
  have hwd : wdB W = nb W.turn.toNat ++ nb W.dice.toNat ++ heapB W.heap ++ tabB W.tab ++ nb W.refused.toNat ++ nbs (W.ends.map Int.toNat) := rfl
  rw [hwd]
  rw [hd] at h2
  simp only [rTab, i64v] at h1 h4 h5
  unfold rWdC
  generalize W.ends = es at hE hl6 ⊢
  simp [i64v]
  intro v1
  refine draw_g [0, 1, 3, 4, 7, 8, 11, 12, 15, 16, 2, 5, 6, 9, 10, 13, 14, 17] 18 [(2, [0, 1]), (5, [0, 1, 2, 3, 4]), (9, [0, 1, 2, 3, 4, 5, 7, 8]), (13, [0, 1, 2, 3, 4, 5, 7, 8, 9, 11, 12]), (17, [0, 1, 2, 3, 4, 5, 7, 8, 9, 11, 12, 13, 15, 16])] (by kernel_rfl) (by kernel_rfl) (by kernel_rfl) ?_
  simp [i64v]
  refine callT_eq [] h1 ?_
  simp
  refine callT_eq [] h2 ?_
  simp
  refine ⟨by omega, callT_eq [] h3 ?_⟩
  simp
  refine ⟨by omega, by omega, callT_eq [] h4 ?_⟩
  simp
  refine ⟨by omega, by omega, callT_eq [] h5 ?_⟩
  simp
  refine ⟨by omega, by omega, ?_⟩
  obtain ⟨P, hP⟩ : ∃ P, P = nb W.turn.toNat ++ (nb W.dice.toNat ++ (heapB W.heap ++ (tabB W.tab ++ nb W.refused.toNat))) := ⟨_, rfl⟩
  have hPl : P.length ≤ 11000 := by rw [hP]; simp; omega
  have hP2 : ∀ X, nb W.turn.toNat ++ (nb W.dice.toNat ++ (heapB W.heap ++ (tabB W.tab ++ (nb W.refused.toNat ++ X)))) = P ++ X := fun X => by rw [hP]; simp
  simp only [← hP, hP2]
  refine loopT_of Nat (fun k => k ≤ 6) (fun k => ⟨[(1, .at 1 v1 0), (3, .v (.string (bs (P ++ nbs ((es.map Int.toNat).take k))))), (4, i64v k)], [(1, v1, ⟨0, [i64v W.turn, i64v W.refused, .v (.int .u64 W.dice), .isl (W.heap.map i64v) 64, .isl (rowU W.tab.l) W.tab.l.length, i64v W.tab.next, .isl (es.map i64v) 6]⟩)]⟩) (fun k => 6 - k) 0 (by simp) (by simp [i64v]) (by simp [i64v]) ?_
  intro k hk
  by_cases g : k < 6
  · have g' : (k : Int) < 6 := by omega
    have gl : k < es.length := by omega
    have ek : IntKind.i64.wrap ((k : Int) + 1) = ((k + 1 : Nat) : Int) := by rw [i64_id (by omega) (by omega)]; rfl
    have hEk := hE k gl
    have hC := CountR_T es[k] (by omega)
    have hk1 : nbs ((es.map Int.toNat).take (k + 1)) = nbs ((es.map Int.toNat).take k) ++ nb es[k].toNat := by rw [List.take_succ_eq_append_getElem (by simpa using gl), nbs_snoc]; simp
    have l2 := nb_len10 (n := es[k].toNat) (by omega)
    have l3 := nbs_len (l := (es.map Int.toNat).take k) fun m hm => by
      obtain ⟨y, hy, rfl⟩ := List.mem_map.1 (List.mem_of_mem_take hm)
      obtain ⟨j, hj, rfl⟩ := List.getElem_of_mem hy
      have := hE j hj
      omega
    simp only [List.length_take, List.length_map] at l3
    simp [i64v, g, g', gl, hl6]
    refine callT_eq [] hC ?_
    simp [i64v]
    exact ⟨by omega, SLx.again (k + 1) (by omega) (by omega) (by simp [i64v, ek, hk1]) (by simp [i64v])⟩
  · have hk6 : k = 6 := by omega
    subst hk6
    have h6 : (es.map Int.toNat).take 6 = es.map Int.toNat := List.take_of_length_le (by simp; omega)
    simp [i64v, h6]
end Go.Proofs.YtgkhedmjkahclaaGreat.TL
