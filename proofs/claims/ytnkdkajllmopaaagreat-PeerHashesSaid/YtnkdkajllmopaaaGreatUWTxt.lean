/- A world's bytes. -/
import Derived.Test.YtnkdkajllmopaaaGreatUTyp
import Derived.Test.YtnkdkajllmopaaaGreatUUnit
import Derived.Test.YtnkdkajllmopaaaGreatUWire
import Derived.Test.YtnkdkajllmopaaaGreatUPc
import Derived.Test.YtnkdkajllmopaaaGreatTF
import Derived.Test.YtnkdkajllmopaaaGreatUVer
/- A world's bytes, its sum. -/
/- A world that is made. -/
/- The images that the laws play with. -/
/- The game. -/
/- The laws of the world: awake. -/
namespace Go.Proofs.YtnkdkajllmopaaaGreat.TL
open Go
set_option linter.unusedVariables false
set_option linter.unusedSimpArgs false

/-- How many cells there are up to the last one that isn't 0. -/
def lastC (c : List Int) : Nat → Nat
  | 0 => 0
  | n + 1 => if c[n]?.getD 0 = 0 then lastC c n else n + 1
theorem lastC_le (c : List Int) : ∀ n, lastC c n ≤ n
  | 0 => Nat.le_refl _
  | n + 1 => by
    simp only [lastC]
    split
    · exact Nat.le_succ_of_le (lastC_le c n)
    · exact Nat.le_refl _

set_option maxRecDepth 100000 in
theorem Last_T (v : Nat) (c : List Int) (hc : c.length = 64) : callT Tryz.prog 94 [.at 2005 v 0] ⟨[], heapH v c⟩ (fun r h => r = i64v (lastC c 64) ∧ h = heapH v c) := by
  refine callT_of_body [0, 2, 3, 15] [2005] Tryz.func94 rfl (by decide) (by kernel_rfl) rfl ?_
  simp
  refine loopT_of Nat (fun k => k ≤ 64 ∧ lastC c k = lastC c 64) (fun k => ⟨[(0, .at 2005 v 0), (3, i64v k)], heapH v c⟩) (fun k => k) 64 (by simp) (by simp [i64v]) (by simp) ?_
  rintro k ⟨hk, hl⟩
  cases k with
  | zero =>
    have hl2 : lastC c 64 = 0 := hl.symm
    simp [i64v, hl2]
  | succ n =>
    have e1 : IntKind.i64.wrap (((n + 1 : Nat) : Int) - 1) = (n : Int) := by rw [i64_id (by omega) (by omega)]; omega
    have e1' : IntKind.i64.wrap (n : Int) = (n : Int) := i64_id (by omega) (by omega)
    have hn : n < c.length := by omega
    have h64 : (n : Int) < 64 := by omega
    by_cases h0 : c[n] = 0
    · have hl2 : lastC c n = lastC c 64 := by rw [← hl]; simp [lastC, hn, h0]
      simp [i64v, e1, e1', hn, h0, h64]
      exact SLx.again n ⟨by omega, hl2⟩ (by simp) (by simp [i64v]) (by simp)
    · have hl2 : n + 1 = lastC c 64 := by rw [← hl]; simp [lastC, hn, h0]
      simp [i64v, e1, e1', hn, h0, h64]
      omega

/-- A dice's bytes. -/
theorem DText_T (v : Nat) (d : Int) (h0 : 0 ≤ d) (h1 : d < 18446744073709551616) : callT Tryz.prog 73 [.at 2006 v 0] ⟨[], diceH v d⟩ (fun r h => r = .v (.string (bs (nb d.toNat))) ∧ h = diceH v d) := by
  refine callT_of_body [0, 2, 3] [2006] Tryz.func73 rfl (by decide) (by kernel_rfl) rfl ?_
  simp
  intro v3 v8
  have hc := OutNum_T v3 0 [] [d.toNat] (by simp; omega) (by simp)
  have hmx : max d 0 = d := by omega
  refine callT.pre (fn_of hc) (CLx.frz 8 rfl (CLx.nilCell 3 0 1002 1 (by decide) (by decide) rfl rfl fun v1 => CLx.done ?_))
  simp
  have hc1 := OutNum_T v3 v1 [] [d.toNat] (by simp; omega) (by simp)
  refine callT_ex [(1000, 3), (1001, 1002)] hc1 ?_
  simp [u64c, hmx]
  intro u1
  refine callT_eq [(1000, 3), (1001, 1002)] (OutText_T v3 u1 (nb d.toNat)) ?_
  simp [u64c]

/- Out.Int of cells that live on. -/
set_option maxHeartbeats 1000000 in
set_option maxRecDepth 100000 in
theorem OutIntB_T (v u vh : Nat) (l : List UInt8) (c : List Int) (m : Nat) (hm : m ≤ c.length) (hc : c.length = 64) (hn : ∀ n ∈ c, -9223372036854775808 ≤ n ∧ n ≤ 9223372036854775807) (hl : l.length ≤ 1000000000) :
    callT Tryz.prog 95 [.at 1000 v 0, .sl 2005 vh 0 m] ⟨[], outH v u l ++ heapH vh c⟩ (fun r h => ∃ u', r = .at 1000 v 0 ∧ h = outH v u' (l ++ nbs ((c.take m).map zig)) ++ heapH vh c) := by
  refine callT_of_body [0, 1, 4, 6, 7, 8, 9, 10] [1000, 1001, 2005] Tryz.func95 rfl (by decide) (by kernel_rfl) rfl ?_
  simp
  refine loopT_of (Nat × Nat) (fun x => x.1 ≤ m) (fun x => ⟨[(0, .at 1000 v 0), (7, .sl 2005 vh 0 m), (8, .v (.int .i64 m)), (9, .v (.int .i64 x.1))], outH v x.2 (l ++ nbs ((c.map zig).take x.1)) ++ heapH vh c⟩) (fun x => m - x.1) (0, u) (by simp) (by simp) (by simp [nbs]) ?_
  rintro ⟨k, u1⟩ hk
  simp only at hk ⊢
  by_cases h1 : k < m
  · have hkc : k < c.length := by omega
    simp [h1, hkc, i64v]
    have h2 := hn c[k] (List.getElem_mem hkc)
    rw [zig_bits h2.1 h2.2]
    intro v1
    have hz := zig_lt h2.1 h2.2
    have hk1 : nbs ((c.map zig).take (k + 1)) = nbs ((c.map zig).take k) ++ nb (zig c[k]) := by rw [List.take_succ_eq_append_getElem (by simpa using hkc), nbs_snoc]; simp
    have hkl := nbs_len (l := (c.map zig).take k) fun n h => by
      obtain ⟨x, hx, rfl⟩ := List.mem_map.1 (List.mem_of_mem_take h)
      exact zig_lt (hn x hx).1 (hn x hx).2
    simp only [List.length_take, List.length_map] at hkl
    have hq := OutNum_T v u1 (l ++ nbs ((c.map zig).take k)) [zig c[k]] (by simp; omega) (by simp; omega)
    refine callT.pre (fn_of hq) (CLx.frz 21 rfl (CLx.done ?_))
    simp
    refine callT_ex [(1000, 1000), (1001, 1001)] hq ?_
    simp [u64c]
    intro u2
    have e4 : IntKind.i64.wrap ((k : Int) + 1) = ((k + 1 : Nat) : Int) := by rw [i64_id (by omega) (by omega)]; rfl
    exact SLx.again (k + 1, u2) (by simp only; omega) (by simp only; omega) (by simp [e4]) (by simp [hk1])
  · have e1 : k = m := by omega
    subst e1
    simp

/-- A heap's bytes. -/
def heapB (c : List Int) : List UInt8 := nb (lastC c 64) ++ nbs ((c.take (lastC c 64)).map zig)
set_option maxHeartbeats 1000000 in
set_option maxRecDepth 100000 in
theorem HText_T (v : Nat) (c : List Int) (hc : c.length = 64) (hn : ∀ n ∈ c, -9223372036854775808 ≤ n ∧ n ≤ 9223372036854775807) : callT Tryz.prog 74 [.at 2005 v 0] ⟨[], heapH v c⟩ (fun r h => r = .v (.string (bs (heapB c))) ∧ h = heapH v c) := by
  refine callT_of_body [0, 2, 3, 4] [2005] Tryz.func74 rfl (by decide) (by kernel_rfl) rfl ?_
  have hle := lastC_le c 64
  have hm64 : ((lastC c 64 : Nat) : Int) ≤ 64 := by omega
  simp
  intro v3
  refine callT_eq [(2005, 2005)] (Last_T v c hc) ?_
  generalize hm : lastC c 64 = m at hle hm64
  have h10 := nb_len10 (n := m) (by omega)
  simp [i64v]
  refine draw_g [0, 1, 3, 4, 5, 6, 7, 2] 8 [(2, [0, 1])] (by kernel_rfl) (by kernel_rfl) (by kernel_rfl) ?_
  simp [i64v, hm64]
  have hq := OutCount_T v3 0 [] [(m : Int)] (by simp; omega) (by simp)
  refine callT.pre (fn_of hq) (CLx.nilCell 3 0 1002 1 (by decide) (by decide) rfl rfl fun v1 => CLx.done ?_)
  simp
  have hq1 := OutCount_T v3 v1 [] [(m : Int)] (by simp; omega) (by simp)
  refine callT_ex [(1000, 3), (1001, 1002)] hq1 ?_
  simp [i64c, hm64]
  intro u1
  refine callT_ex [(1000, 3), (1001, 1002), (2005, 2005)] (OutIntB_T v3 u1 v (nb m) c m (by omega) hc hn (by omega)) ?_
  simp [i64c]
  intro u2
  refine callT_eq [(1000, 3), (1001, 1002)] (OutText_T v3 u2 (nb m ++ nbs ((c.take m).map zig))) ?_
  simp [heapB, hm]

def Wd.ends (W : Wd) : List Int := [W.e0, W.e1, W.e2, W.e3, W.e4, W.e5]
/- Out.Count of a world's ends. -/
set_option maxHeartbeats 4000000 in
set_option maxRecDepth 100000 in
theorem OutCountW_T (v u : Nat) (l : List UInt8) (V : Vs) (u0 : Nat) (I : List Fn) (W : Wd) (hn : ∀ n ∈ W.ends, n < 2 ^ 63) (hl : l.length ≤ 1000000000) :
    callT Tryz.prog 47 [.at 1000 v 0, .sl 2001 V.w 2 6] ⟨[], outH v u l ++ wdH V u0 I W⟩ (fun r h => ∃ u', r = .at 1000 v 0 ∧ h = outH v u' (l ++ nbs (W.ends.map Int.toNat)) ++ wdH V u0 I W) := by
  refine callT_of_body [0, 1, 4, 6, 7, 8, 9, 10] [1000, 1001, 2001, 2002, 2003, 2004, 2005, 2006] Tryz.func47 rfl (by decide) (by kernel_rfl) rfl ?_
  simp
  refine loopT_of (Nat × Nat) (fun x => x.1 ≤ 6) (fun x => ⟨[(0, .at 1000 v 0), (7, .sl 2001 V.w 2 6), (8, .v (.int .i64 6)), (9, .v (.int .i64 x.1))], outH v x.2 (l ++ nbs ((W.ends.map Int.toNat).take x.1)) ++ wdH V u0 I W⟩) (fun x => 6 - x.1) (0, u) (by simp) (by simp) (by simp [nbs]) ?_
  rintro ⟨k, u1⟩ hk
  simp only at hk ⊢
  have hlen : W.ends.length = 6 := rfl
  by_cases h1 : k < 6
  · have h1' : (k : Int) < 6 := by omega
    have hkc : k < W.ends.length := by rw [hlen]; exact h1
    have h2 := hn W.ends[k] (List.getElem_mem hkc)
    have hk1 : nbs ((W.ends.map Int.toNat).take (k + 1)) = nbs ((W.ends.map Int.toNat).take k) ++ nb W.ends[k].toNat := by rw [List.take_succ_eq_append_getElem (by simpa using hkc), nbs_snoc]; simp
    have hkl := nbs_len (l := (W.ends.map Int.toNat).take k) fun n h => by
      obtain ⟨x, hx, rfl⟩ := List.mem_map.1 (List.mem_of_mem_take h)
      have := hn x hx
      omega
    simp only [List.length_take, List.length_map] at hkl
    have hq := OutNum_T v u1 (l ++ nbs ((W.ends.map Int.toNat).take k)) [W.ends[k].toNat] (by simp; omega) (by simp; omega)
    have e0 : IntKind.u64.wrap (max W.ends[k] 0) = (W.ends[k].toNat : Int) := by rw [u64_id (by omega) (by omega)]; omega
    have e4 : IntKind.i64.wrap ((k : Int) + 1) = ((k + 1 : Nat) : Int) := by rw [i64_id (by omega) (by omega)]; rfl
    have hg : ∀ (k : Nat) (h : k < W.ends.length), ([TV.at 2002 V.t 0, .v (.int .i64 W.refused), .v (.int .i64 W.e0), .v (.int .i64 W.e1), .v (.int .i64 W.e2), .v (.int .i64 W.e3), .v (.int .i64 W.e4), .v (.int .i64 W.e5), .at 2004 V.m 0, .v (.int .i64 W.turn), .v (.int .i64 W.player)] : List TV)[2 + k]? = some (.v (.int .i64 W.ends[k])) := fun k h => by
      match k, h with
      | 0, _ => rfl
      | 1, _ => rfl
      | 2, _ => rfl
      | 3, _ => rfl
      | 4, _ => rfl
      | 5, _ => rfl
    have hgk := hg k hkc
    obtain ⟨hgk0, hgk1⟩ := List.getElem?_eq_some_iff.1 hgk
    have h11 : 2 + k < 11 := by omega
    simp [h1, h1', i64v, hgk, h11, hgk1]
    intro v1
    rw [e0]
    refine callT.pre (fn_of hq) (CLx.frz 17 rfl (CLx.done ?_))
    simp
    refine callT_ex [(1000, 1000), (1001, 1001)] hq ?_
    simp [u64c]
    intro u2
    exact SLx.again (k + 1, u2) (by simp only; omega) (by simp only; omega) (by simp [e4]) (by simp [hk1, i64v])
  · have e1 : k = 6 := by omega
    subst e1
    have e2 : (W.ends.map Int.toNat).take 6 = W.ends.map Int.toNat := List.take_of_length_le (by simp [hlen])
    simp [e2]
end Go.Proofs.YtnkdkajllmopaaaGreat.TL

namespace Go.Proofs.YtnkdkajllmopaaaGreat.TL
open Go
set_option linter.unusedVariables false
set_option linter.unusedSimpArgs false

set_option maxRecDepth 100000 in
theorem OutRaw_T (v u : Nat) (l s : List UInt8) (hl : l.length + s.length ≤ 1000000000000) :
    callT Tryz.prog 72 [.at 1000 v 0, .v (.string (bs s))] ⟨[], outH v u l⟩ (fun r h => ∃ u', r = .at 1000 v 0 ∧ h = outH v u' (l ++ s)) := by
  refine callT_of_body [0, 1, 4] [1000, 1001] Tryz.func72 rfl (by decide) (by kernel_rfl) rfl ?_
  simp
  omega

/-- A world's bytes. -/
def wdB (W : Wd) : List UInt8 := nb W.turn.toNat ++ nb W.dice.toNat ++ heapB W.heap ++ tabB W.tab ++ nb W.refused.toNat ++ nbs (W.ends.map Int.toNat)
theorem tabB_len {t : Tab} (h : t.WF) : (tabB t).length ≤ 10000 := by
  have h1 := ubs_len h t.l.length
  rw [List.take_length] at h1
  have h2 := h.len
  have h3 := h.nx
  have h4 := nb_len10 (n := t.next.toNat) (by omega)
  have h5 := nb_len10 (n := t.l.length) (by omega)
  simp only [tabB, List.length_append]
  omega
theorem heapB_len (c : List Int) (hn : ∀ n ∈ c, -9223372036854775808 ≤ n ∧ n ≤ 9223372036854775807) : (heapB c).length ≤ 650 := by
  have h0 := lastC_le c 64
  have h1 := nb_len10 (n := lastC c 64) (by omega)
  have h2 := nbs_len (l := (c.take (lastC c 64)).map zig) fun n h => by
    obtain ⟨x, hx, rfl⟩ := List.mem_map.1 h
    exact zig_lt (hn x (List.mem_of_mem_take hx)).1 (hn x (List.mem_of_mem_take hx)).2
  simp only [List.length_map, List.length_take] at h2
  simp only [heapB, List.length_append]
  omega
set_option maxHeartbeats 4000000 in
set_option maxRecDepth 100000 in
theorem WText_T (V : Vs) (u : Nat) (I : List Fn) (W : Wd) (b : Int) (h : W.Ok b) (hb : b ≤ 4611686018427387903) (hR : W.R) :
    callT Tryz.prog 45 [.at 2001 V.w 0] ⟨[], wdH V u I W⟩ (fun r h => r = .v (.string (bs (wdB W))) ∧ h = wdH V u I W) := by
  refine callT_of_body [0, 2, 3] [2001, 2002, 2003, 2004, 2005, 2006] Tryz.func45 rfl (by decide) (by kernel_rfl) rfl ?_
  have hs := h.sm
  simp only [List.mem_cons, List.not_mem_nil, or_false, forall_eq_or_imp, forall_eq] at hs
  obtain ⟨s0, s1, s2, s3, s4, s5, s6, s7⟩ := hs
  simp [i64v]
  intro v3
  refine draw_g [0, 1, 2, 3, 4, 6, 7, 8, 9, 10, 11, 12, 15, 16, 17, 18, 19, 20, 21, 24, 25, 26, 27, 5, 13, 14, 22, 23] 28 [(5, [0, 1, 2, 3, 4]), (13, [0, 1, 2, 3, 4, 5, 6, 7, 8, 9, 10, 11, 12]), (14, [0, 1, 2, 3, 4, 5, 6, 7, 8, 9, 10, 11, 12, 13]), (22, [0, 1, 2, 3, 4, 5, 6, 7, 8, 9, 10, 11, 12, 13, 14, 15, 16, 17, 18, 19, 20, 21]), (23, [0, 1, 2, 3, 4, 5, 6, 7, 8, 9, 10, 11, 12, 13, 14, 15, 16, 17, 18, 19, 20, 21, 22])] (by kernel_rfl) (by kernel_rfl) (by kernel_rfl) ?_
  simp [i64v]
  have hTn := nb_len10 (n := W.turn.toNat) (by omega)
  have hDn := nb_len10 (n := W.dice.toNat) (by have := hR.d; omega)
  have hHn := heapB_len W.heap hR.h
  have hUn := tabB_len h.wf
  have hRn := nb_len10 (n := W.refused.toNat) (by omega)
  have hq := OutCount_T v3 0 [] [W.turn] (by simp; omega) (by simp)
  simp only [List.map_cons, List.map_nil, i64c] at hq
  refine callT.pre (fn_of hq) (CLx.nilCell 3 0 1002 1 (by decide) (by decide) rfl rfl fun v1 => CLx.done ?_)
  simp
  have hq1 := OutCount_T v3 v1 [] [W.turn] (by simp; omega) (by simp)
  refine callT_ex [(1000, 3), (1001, 1002)] hq1 ?_
  simp [i64c]
  intro u1
  refine callT_eq [(2006, 2006)] (DText_T V.d W.dice hR.d.1 hR.d.2) ?_
  simp
  refine callT_ex [(1000, 3), (1001, 1002)] (OutRaw_T v3 u1 (nb W.turn.toNat) (nb W.dice.toNat) (by omega)) ?_
  simp
  intro u2
  refine callT_eq [(2005, 2005)] (HText_T V.h W.heap h.hp hR.h) ?_
  simp
  refine callT_ex [(1000, 3), (1001, 1002)] (OutRaw_T v3 u2 (nb W.turn.toNat ++ nb W.dice.toNat) (heapB W.heap) (by simp; omega)) ?_
  simp
  intro u3
  refine callT_eq [(1000, 2002), (1001, 2003)] (Text8_T V.t u W.tab h.wf) ?_
  simp [i64v]
  refine callT_ex [(1000, 3), (1001, 1002)] (OutRaw_T v3 u3 (nb W.turn.toNat ++ nb W.dice.toNat ++ heapB W.heap) (tabB W.tab) (by simp; omega)) ?_
  simp
  intro u4
  refine draw_g [0, 1, 2, 3, 4, 5, 7, 8, 9, 10, 11, 6] 12 [(6, [0, 1, 2, 3, 4, 5])] (by kernel_rfl) (by kernel_rfl) (by kernel_rfl) ?_
  simp [i64v]
  have hq2 := OutCount_T v3 u4 (nb W.turn.toNat ++ nb W.dice.toNat ++ heapB W.heap ++ tabB W.tab) [W.refused] (by simp; omega) (by simp; omega)
  refine callT_ex [(1000, 3), (1001, 1002)] hq2 ?_
  simp [i64c]
  intro u5
  have hq3 := OutCountW_T v3 u5 (nb W.turn.toNat ++ nb W.dice.toNat ++ heapB W.heap ++ tabB W.tab ++ nb W.refused.toNat) V u I W (by simp [Wd.ends]; omega) (by simp; omega)
  refine callT_ex [(1000, 3), (1001, 1002), (2001, 2001), (2002, 2002), (2003, 2003), (2004, 2004), (2005, 2005), (2006, 2006)] hq3 ?_
  simp [i64v]
  intro u6
  refine callT_eq [(1000, 3), (1001, 1002)] (OutText_T v3 u6 (wdB W)) ?_
  simp [wdB, i64v]

theorem wdB_len {W : Wd} {b : Int} (h : W.Ok b) (hb : b ≤ 4611686018427387903) (hR : W.R) : (wdB W).length ≤ 12000 := by
  have hs := h.sm
  simp only [List.mem_cons, List.not_mem_nil, or_false, forall_eq_or_imp, forall_eq] at hs
  obtain ⟨s0, s1, s2, s3, s4, s5, s6, s7⟩ := hs
  have hTn := nb_len10 (n := W.turn.toNat) (by omega)
  have hDn := nb_len10 (n := W.dice.toNat) (by have := hR.d; omega)
  have hHn := heapB_len W.heap hR.h
  have hUn := tabB_len h.wf
  have hRn := nb_len10 (n := W.refused.toNat) (by omega)
  have hE := nbs_len (l := W.ends.map Int.toNat) fun n hn => by
    simp only [Wd.ends, List.map_cons, List.map_nil, List.mem_cons, List.not_mem_nil, or_false] at hn
    omega
  simp only [Wd.ends, List.map_cons, List.map_nil, List.length_cons, List.length_nil] at hE
  simp only [wdB, Wd.ends, List.map_cons, List.map_nil, List.length_append]
  omega
theorem WHash_T (V : Vs) (u : Nat) (I : List Fn) (W : Wd) (b : Int) (h : W.Ok b) (hb : b ≤ 4611686018427387903) (hR : W.R) :
    callT Tryz.prog 16 [.at 2001 V.w 0] ⟨[], wdH V u I W⟩ (fun r h => r = u64c (sumOf (wdB W)) ∧ h = wdH V u I W) := by
  refine callT_of_body [0, 2] [2001, 2002, 2003, 2004, 2005, 2006] Tryz.func16 rfl (by decide) (by kernel_rfl) rfl ?_
  simp
  have hT := WText_T V u I W b h hb hR
  refine callT_eq [(2001, 2001), (2002, 2002), (2003, 2003), (2004, 2004), (2005, 2005), (2006, 2006)] hT ?_
  simp [i64v]
  intro v5
  have hS := SumOf_T (wdB W) (by have := wdB_len h hb hR; omega)
  refine callT.pre (fn_of hS) (CLx.frz 5 rfl (CLx.done ?_))
  simp
  refine callT_eq [] hS ?_
  simp [i64v, u64c]
end Go.Proofs.YtnkdkajllmopaaaGreat.TL

namespace Go.Proofs.YtnkdkajllmopaaaGreat.TL
open Go
set_option linter.unusedVariables false
set_option linter.unusedSimpArgs false

/-- A world in which no turn was played. -/
def wd0 (seed : Nat) : Wd := ⟨⟨[], 1⟩, 0, 0, 0, 0, 0, 0, 0, 0, 255, List.replicate 64 0, seed⟩
theorem wd0_ok (seed : Nat) : (wd0 seed).Ok 0 := ⟨wf0, by simp [wd0], by simp [wd0], rfl⟩
theorem wd0_R {seed : Nat} (h : seed < 18446744073709551616) : (wd0 seed).R := ⟨by simp only [wd0]; omega, fun x hx => by have := List.eq_of_mem_replicate hx; subst this; simp [inI64]⟩

theorem DNew_T (seed : Nat) : callT Tryz.prog 58 [u64c seed] ⟨[], []⟩ (fun r h => ∃ v, r = .at 5 v 0 ∧ h = [(5, v, ⟨0, [u64c seed]⟩)]) := by
  refine callT_of_body [0, 2] [5] Tryz.func58 rfl (by decide) (by kernel_rfl) rfl ?_
  simp [u64c]

theorem VChk2_T (I : List Fn) (hI : I.length ≤ 1000000) : callT Tryz.prog 56 [.agg [.isl (rowFn I) I.length]] ⟨[], []⟩ (fun r h => ∃ x : Int × Int, r = .tup [.agg [i64v x.1, i64v x.2], i64c (chkV I)] ∧ h = []) :=
  callT.mono (VChk_T I hI) fun r h hh => VLx.done (by obtain ⟨a, b, e⟩ := hh; exact ⟨(a, b), e⟩)
theorem WNew_no (I : List Fn) (hI : I.length ≤ 1000000) (seed : Nat) (hc : chkV I ≠ 0) : callT Tryz.prog 34 [.agg [.isl (rowFn I) I.length], u64c seed] ⟨[], []⟩ (fun r h => r = .tup [.v (.pointer none), i64c (chkV I)] ∧ h = []) := by
  refine callT_of_body [0, 1, 2, 4, 5, 7, 8, 15] [] Tryz.func34 rfl (by decide) (by kernel_rfl) rfl ?_
  simp [u64c]
  intro v2
  refine callT_exa [] (VChk2_T I hI) ?_
  simp [i64c, i64v, hc]

theorem WNew_0 (I : List Fn) (hI : I.length ≤ 1000000) (seed : Nat) (hc : chkV I = 0) : callT Tryz.prog 34 [.agg [.isl (rowFn I) I.length], u64c seed] ⟨[], []⟩ (fun r h => ∃ w t u m hh d, r = .tup [.at 19 w 0, i64c 0] ∧
    (∀ p ∈ ([(19, w, ⟨0, [.at 2002 t 0, i64v 0, i64v 0, i64v 0, i64v 0, i64v 0, i64v 0, i64v 0, .at 30 m 0, i64v 0, i64v 255]⟩), (2002, t, ⟨0, [.sl 2003 u 0 0, i64v 1]⟩), (2003, u, ⟨6, []⟩), (30, m, ⟨0, [.at 23 hh 0, .at 2006 d 0, .isl (rowFn I) I.length, .ifc 167 (.agg [.at 19 w 0])]⟩), (23, hh, ⟨0, (List.replicate 64 (i64v 0))⟩), (2006, d, ⟨0, [u64c seed]⟩)] : Heap), getH h p.1 = some p.2)) := by
  refine callT_of_body [0, 1, 2, 4, 5, 7, 8, 15] [19, 2002, 2003, 30, 23, 2006] Tryz.func34 rfl (by decide) (by kernel_rfl) rfl ?_
  simp [u64c]
  intro v2
  refine callT_exa [] (VChk2_T I hI) ?_
  simp [i64c, i64v, hc]
  intro a b v6
  refine callT_ex2 [(2, 2002), (1001, 2003)] New1_T ?_
  simp [i64v]
  intro vt u v19
  refine draw_h (pl [0, 1, 2, 4, 6, 7, 8] (.alt 3 (pl [5, 9, 10] .nil) 5 (pl [3, 9, 10] .nil))) 11 [(3, [2]), (5, [4]), (10, [1, 2, 3, 4, 5, 6, 7, 8, 9])] (by kernel_rfl) (by kernel_rfl) (by kernel_rfl) (by kernel_rfl) ?_
  simp [i64v, -List.reduceReplicate]
  have hD := DNew_T seed
  simp only [u64c] at hD
  refine ⟨fun v23 => ?_, ?_⟩
  · refine callT_ex [(5, 2006)] hD ?_
    simp [i64v, u64c]
    intro v
    exact ⟨vt, u, v, ⟨rfl, rfl⟩, ⟨rfl, rfl⟩, rfl, rfl⟩
  · refine callT_ex [(5, 2006)] hD ?_
    simp [i64v, u64c]
    intro v
    exact ⟨vt, u, v, ⟨rfl, rfl⟩, ⟨rfl, rfl⟩, rfl, rfl⟩

theorem WNew_T (I : List Fn) (hI : I.length ≤ 1000000) (seed : Nat) (hc : chkV I = 0) : callT Tryz.prog 34 [.agg [.isl (rowFn I) I.length], u64c seed] ⟨[], []⟩ (fun r h => ∃ x : Vs × Nat, r = .tup [.at 2001 x.1.w 0, i64c 0] ∧ h = wdH x.1 x.2 I (wd0 seed)) := by
  refine callT.mono (WNew_0 I hI seed hc) fun r h hh => ?_
  obtain ⟨w, t, u, m, hv, d, rfl, hH⟩ := hh
  refine VLx.sub _ hH ?_
  refine VLx.mv 19 2001 rfl rfl fun w' => ?_
  refine VLx.mv 30 2004 rfl rfl fun m' => ?_
  refine VLx.mv 23 2005 rfl rfl fun h' => ?_
  refine VLx.sub (wdH ⟨w', t, m', h', d⟩ u I (wd0 seed)) ?_ (VLx.done ⟨(⟨w', t, m', h', d⟩, u), ?_, rfl⟩)
  · simp [i64v, u64c, wd0, rowU]
  · simp [i64c]
end Go.Proofs.YtnkdkajllmopaaaGreat.TL

namespace Go.Proofs.YtnkdkajllmopaaaGreat.TL
open Go
set_option linter.unusedVariables false
set_option linter.unusedSimpArgs false

def hasArg (op : Int) : Bool := decide (op = 1) || (decide (op = 13) || (decide (op = 14) || (decide (op = 15) || (decide (op = 17) || (decide (op = 18) || decide (op = 22))))))
set_option maxRecDepth 100000 in
theorem HasArg_T (op : Int) : callT Tryz.prog 78 [.v (.int .u8 op)] ⟨[], []⟩ (fun r h => r = .v (.bool (hasArg op)) ∧ h = []) := by
  refine callT_of_body [0, 2, 3, 4] [] Tryz.func78 rfl (by decide) (by kernel_rfl) rfl ?_
  by_cases h1 : op = 1
  · subst h1; simp [hasArg]
  by_cases h2 : op = 13
  · subst h2; simp [hasArg]
  by_cases h3 : op = 14
  · subst h3; simp [hasArg]
  by_cases h4 : op = 15
  · subst h4; simp [hasArg]
  by_cases h5 : op = 17
  · subst h5; simp [hasArg]
  by_cases h6 : op = 18
  · subst h6; simp [hasArg]
  by_cases h7 : op = 22
  · subst h7; simp [hasArg]
  simp [hasArg, h1, h2, h3, h4, h5, h6, h7]

theorem Of1_T (op a : Int) : callT Tryz.prog 54 [.v (.int .u8 op), .isl [i64v a] 1] ⟨[], []⟩ (fun r h => r = .agg [.v (.int .u8 op), i64v (if hasArg op then a else 0)] ∧ h = []) := by
  refine callT_of_body [0, 1, 4, 5, 14] [] Tryz.func54 rfl (by decide) (by kernel_rfl) rfl ?_
  simp [i64v]
  intro v4 v5
  refine callT_eq [] (HasArg_T op) ?_
  cases h : hasArg op <;> simp
theorem Of0_T (op : Int) : callT Tryz.prog 54 [.v (.int .u8 op), .v (.slice none 0 0)] ⟨[], []⟩ (fun r h => r = .agg [.v (.int .u8 op), i64v 0] ∧ h = []) := by
  refine callT_of_body [0, 1, 4, 5, 14] [] Tryz.func54 rfl (by decide) (by kernel_rfl) rfl ?_
  simp [i64v]

theorem CMake_T (args locs : Int) (l : List Ins) (hl : l.length ≤ 1000000) : callT Tryz.prog 55 [i64v args, i64v locs, .isl (rowIns l) l.length] ⟨[], []⟩ (fun r h => r = .agg (Fn.cells ⟨args, locs, l⟩) ∧ h = []) := by
  refine callT.mono (K := fun r h => ∃ v, r = .agg [i64v args, i64v locs, .sl 9 v 0 l.length] ∧ h = [(9, v, ⟨2, rowIns l⟩)]) ?_ fun r h hh => ?_
  · refine callT_of_body [0, 1, 2, 6] [9] Tryz.func55 rfl (by decide) (by kernel_rfl) rfl ?_
    have e : List.take (l.length * 2) (rowIns l) = rowIns l := List.take_of_length_le (by simp)
    simp [i64v, e]
    omega
  · obtain ⟨v, rfl, rfl⟩ := hh
    refine VLx.frz 9 rfl (VLx.done ?_)
    have e : List.take (l.length * 2) (rowIns l) = rowIns l := List.take_of_length_le (by simp)
    simp [Fn.cells, i64v, e]

def idleF (k : Int) : Fn := ⟨k, k, [⟨1, 0⟩, ⟨16, 0⟩]⟩
def idleI : List Fn := [idleF 1, idleF 4]
end Go.Proofs.YtnkdkajllmopaaaGreat.TL

namespace Go.Proofs.YtnkdkajllmopaaaGreat.TL
open Go
set_option linter.unusedVariables false
set_option linter.unusedSimpArgs false

def gameOrders : Fn := ⟨4, 4, [⟨17, 1⟩, ⟨1, 3⟩, ⟨10, 0⟩, ⟨14, 9⟩, ⟨17, 2⟩, ⟨17, 3⟩, ⟨17, 3⟩, ⟨22, 0⟩, ⟨16, 0⟩, ⟨17, 1⟩, ⟨1, 2⟩, ⟨10, 0⟩, ⟨14, 22⟩, ⟨17, 2⟩, ⟨1, 4⟩, ⟨17, 2⟩, ⟨1, 4⟩, ⟨22, 2⟩, ⟨1, -300⟩, ⟨5, 0⟩, ⟨22, 3⟩, ⟨16, 0⟩, ⟨17, 0⟩, ⟨1, 2⟩, ⟨17, 2⟩, ⟨22, 3⟩, ⟨16, 0⟩]⟩
def gameTurn : Fn := ⟨1, 1, [⟨1, 4⟩, ⟨21, 0⟩, ⟨14, 5⟩, ⟨22, 4⟩, ⟨16, 0⟩, ⟨1, 7⟩, ⟨1, 9⟩, ⟨21, 0⟩, ⟨1, 0⟩, ⟨22, 0⟩, ⟨16, 0⟩]⟩
def gameI : List Fn := [gameTurn, gameOrders]
set_option maxHeartbeats 4000000 in
set_option maxRecDepth 100000 in
theorem Game_T : callT Tryz.prog 30 [] ⟨[], []⟩ (fun r h => r = .agg [.isl (rowFn gameI) 2] ∧ h = []) := by
  refine callT.mono (K := fun r h => ∃ v, r = .agg [.sl 114 v 0 2] ∧ h = [(114, v, ⟨3, rowFn gameI⟩)]) ?_ fun r h hh => ?_
  · refine callT_of_body [0, 1, 2, 3] [114] Tryz.func30 rfl (by decide) (by kernel_rfl) rfl ?_
    have of1_m300 := Of1_T 1 (-300)
    have of1_0 := Of1_T 1 (0)
    have of1_2 := Of1_T 1 (2)
    have of1_3 := Of1_T 1 (3)
    have of1_4 := Of1_T 1 (4)
    have of1_7 := Of1_T 1 (7)
    have of1_9 := Of1_T 1 (9)
    have of10 := Of0_T 10
    have of14_22 := Of1_T 14 (22)
    have of14_5 := Of1_T 14 (5)
    have of14_9 := Of1_T 14 (9)
    have of16 := Of0_T 16
    have of17_0 := Of1_T 17 (0)
    have of17_1 := Of1_T 17 (1)
    have of17_2 := Of1_T 17 (2)
    have of17_3 := Of1_T 17 (3)
    have of21 := Of0_T 21
    have of22_0 := Of1_T 22 (0)
    have of22_2 := Of1_T 22 (2)
    have of22_3 := Of1_T 22 (3)
    have of22_4 := Of1_T 22 (4)
    have of5 := Of0_T 5
    simp [i64v, hasArg] at of1_m300 of1_0 of1_2 of1_3 of1_4 of1_7 of1_9 of10 of14_22 of14_5 of14_9 of16 of17_0 of17_1 of17_2 of17_3 of21 of22_0 of22_2 of22_3 of22_4 of5
    have h1 := CMake_T 1 1 gameTurn.code (by decide)
    have h4 := CMake_T 4 4 gameOrders.code (by decide)
    simp [i64v, gameTurn, gameOrders, Fn.cells, rowIns, Ins.cells] at h1 h4
    simp
    intro v0
    intro v5
    refine callT.pre (fn_of of17_1) (CLx.frz 5 rfl (CLx.done ?_))
    simp
    refine callT_eq [] of17_1 ?_
    simp
    intro v8
    refine callT.pre (fn_of of1_3) (CLx.frz 8 rfl (CLx.done ?_))
    simp
    refine callT_eq [] of1_3 ?_
    simp
    refine callT_eq [] of10 ?_
    simp
    intro v13
    refine callT.pre (fn_of of14_9) (CLx.frz 13 rfl (CLx.done ?_))
    simp
    refine callT_eq [] of14_9 ?_
    simp
    intro v16
    refine callT.pre (fn_of of17_2) (CLx.frz 16 rfl (CLx.done ?_))
    simp
    refine callT_eq [] of17_2 ?_
    simp
    intro v19
    refine callT.pre (fn_of of17_3) (CLx.frz 19 rfl (CLx.done ?_))
    simp
    refine callT_eq [] of17_3 ?_
    simp
    intro v22
    refine callT.pre (fn_of of17_3) (CLx.frz 22 rfl (CLx.done ?_))
    simp
    refine callT_eq [] of17_3 ?_
    simp
    intro v25
    refine callT.pre (fn_of of22_0) (CLx.frz 25 rfl (CLx.done ?_))
    simp
    refine callT_eq [] of22_0 ?_
    simp
    refine callT_eq [] of16 ?_
    simp
    intro v30
    refine callT.pre (fn_of of17_1) (CLx.frz 30 rfl (CLx.done ?_))
    simp
    refine callT_eq [] of17_1 ?_
    simp
    intro v33
    refine callT.pre (fn_of of1_2) (CLx.frz 33 rfl (CLx.done ?_))
    simp
    refine callT_eq [] of1_2 ?_
    simp
    refine callT_eq [] of10 ?_
    simp
    intro v38
    refine callT.pre (fn_of of14_22) (CLx.frz 38 rfl (CLx.done ?_))
    simp
    refine callT_eq [] of14_22 ?_
    simp
    intro v41
    refine callT.pre (fn_of of17_2) (CLx.frz 41 rfl (CLx.done ?_))
    simp
    refine callT_eq [] of17_2 ?_
    simp
    intro v44
    refine callT.pre (fn_of of1_4) (CLx.frz 44 rfl (CLx.done ?_))
    simp
    refine callT_eq [] of1_4 ?_
    simp
    intro v47
    refine callT.pre (fn_of of17_2) (CLx.frz 47 rfl (CLx.done ?_))
    simp
    refine callT_eq [] of17_2 ?_
    simp
    intro v50
    refine callT.pre (fn_of of1_4) (CLx.frz 50 rfl (CLx.done ?_))
    simp
    refine callT_eq [] of1_4 ?_
    simp
    intro v53
    refine callT.pre (fn_of of22_2) (CLx.frz 53 rfl (CLx.done ?_))
    simp
    refine callT_eq [] of22_2 ?_
    simp
    intro v56
    refine callT.pre (fn_of of1_m300) (CLx.frz 56 rfl (CLx.done ?_))
    simp
    refine callT_eq [] of1_m300 ?_
    simp
    refine callT_eq [] of5 ?_
    simp
    intro v61
    refine callT.pre (fn_of of22_3) (CLx.frz 61 rfl (CLx.done ?_))
    simp
    refine callT_eq [] of22_3 ?_
    simp
    refine callT_eq [] of16 ?_
    simp
    intro v66
    refine callT.pre (fn_of of17_0) (CLx.frz 66 rfl (CLx.done ?_))
    simp
    refine callT_eq [] of17_0 ?_
    simp
    intro v69
    refine callT.pre (fn_of of1_2) (CLx.frz 69 rfl (CLx.done ?_))
    simp
    refine callT_eq [] of1_2 ?_
    simp
    intro v72
    refine callT.pre (fn_of of17_2) (CLx.frz 72 rfl (CLx.done ?_))
    simp
    refine callT_eq [] of17_2 ?_
    simp
    intro v75
    refine callT.pre (fn_of of22_3) (CLx.frz 75 rfl (CLx.done ?_))
    simp
    refine callT_eq [] of22_3 ?_
    simp
    refine callT_eq [] of16 ?_
    simp
    intro v79
    intro v81
    refine callT.pre (fn_of of1_4) (CLx.frz 81 rfl (CLx.done ?_))
    simp
    refine callT_eq [] of1_4 ?_
    simp
    refine callT_eq [] of21 ?_
    simp
    intro v86
    refine callT.pre (fn_of of14_5) (CLx.frz 86 rfl (CLx.done ?_))
    simp
    refine callT_eq [] of14_5 ?_
    simp
    intro v89
    refine callT.pre (fn_of of22_4) (CLx.frz 89 rfl (CLx.done ?_))
    simp
    refine callT_eq [] of22_4 ?_
    simp
    refine callT_eq [] of16 ?_
    simp
    intro v94
    refine callT.pre (fn_of of1_7) (CLx.frz 94 rfl (CLx.done ?_))
    simp
    refine callT_eq [] of1_7 ?_
    simp
    intro v97
    refine callT.pre (fn_of of1_9) (CLx.frz 97 rfl (CLx.done ?_))
    simp
    refine callT_eq [] of1_9 ?_
    simp
    refine callT_eq [] of21 ?_
    simp
    intro v102
    refine callT.pre (fn_of of1_0) (CLx.frz 102 rfl (CLx.done ?_))
    simp
    refine callT_eq [] of1_0 ?_
    simp
    intro v105
    refine callT.pre (fn_of of22_0) (CLx.frz 105 rfl (CLx.done ?_))
    simp
    refine callT_eq [] of22_0 ?_
    simp
    refine callT_eq [] of16 ?_
    simp
    intro v109
    refine callT.pre (fn_of h1) (CLx.frz 109 rfl (CLx.done ?_))
    simp
    refine callT_eq [] h1 ?_
    simp
    refine callT.pre (fn_of h4) (CLx.frz 79 rfl (CLx.done ?_))
    simp
    refine callT_eq [] h4 ?_
    simp [rowFn, gameI, gameTurn, gameOrders, Fn.cells, i64v, rowIns, Ins.cells]
  · obtain ⟨v, rfl, rfl⟩ := hh
    refine VLx.frz 114 rfl (VLx.done ?_)
    simp [rowFn, gameI, gameTurn, gameOrders, Fn.cells, i64v, rowIns, Ins.cells]
end Go.Proofs.YtnkdkajllmopaaaGreat.TL

namespace Go.Proofs.YtnkdkajllmopaaaGreat.TL
open Go
set_option linter.unusedVariables false
set_option linter.unusedSimpArgs false

theorem u8_u64w (c : UInt8) : IntKind.u64.wrap (c.toNat : Int) = (c.toNat : Int) := by
  have := c.toNat_lt
  rw [IntKind.wrap_u64]
  omega
theorem chk_idle : chkV idleI = 0 := by decide
theorem chk_game : chkV gameI = 0 := by decide
theorem chk_nil : chkV [] = 14 := by decide
def depthsI : List (Option Nat) := [some 0, some 1]
theorem img_idle : Img idleI := by
  refine ⟨fun g hg => ?_, ⟨_, rfl, rfl⟩, ⟨_, rfl, rfl⟩⟩
  simp only [idleI, List.mem_cons, List.not_mem_nil, or_false] at hg
  rcases hg with rfl | rfl
  · exact ⟨by decide, by decide, by decide, by decide, depthsI, by decide⟩
  · exact ⟨by decide, by decide, by decide, by decide, depthsI, by decide⟩
def depthsT : List (Option Nat) := [some 0, some 1, some 1, some 0, some 1, some 0, some 1, some 2, some 2, some 3, some 1]
def depthsO : List (Option Nat) := [some 0, some 1, some 2, some 1, some 0, some 1, some 2, some 3, some 1, some 0, some 1, some 2, some 1, some 0, some 1, some 2, some 3, some 4, some 3, some 4, some 3, some 1, some 0, some 1, some 2, some 3, some 1]
theorem img_game : Img gameI := by
  refine ⟨fun g hg => ?_, ⟨_, rfl, rfl⟩, ⟨_, rfl, rfl⟩⟩
  simp only [gameI, List.mem_cons, List.not_mem_nil, or_false] at hg
  rcases hg with rfl | rfl
  · exact ⟨by decide, by decide, by decide, by decide, depthsT, by decide⟩
  · exact ⟨by decide, by decide, by decide, by decide, depthsO, by decide⟩
theorem noput_idle : NoPut idleI := by unfold NoPut; decide
theorem noput_game : NoPut gameI := by unfold NoPut; decide

theorem WTurn_T (V : Vs) (u : Nat) (I : List Fn) (W : Wd) : callT Tryz.prog 15 [.at 2001 V.w 0] ⟨[], wdH V u I W⟩ (fun r h => r = i64c W.turn ∧ h = wdH V u I W) := by
  refine callT_of_body [0, 2] [2001, 2002, 2003, 2004, 2005, 2006] Tryz.func15 rfl (by decide) (by kernel_rfl) rfl ?_
  simp [i64v, i64c]
/-- The idle world behind one turn. -/
def wdI : Wd := ((wd0 5).play idleI []).1
theorem wdI_facts : ((wd0 5).play idleI []).2 = 0 ∧ wdI.turn = 1 ∧ wdI.e0 = 1 := by decide
theorem wdI_ok : wdI.Ok 2 := by
  have := play_ok img_idle (wd0_ok 5) [] (by simp)
  simpa [wdI] using this
theorem wdI_R : wdI.R := play_R noput_idle (wd0_R (by decide)) []

end Go.Proofs.YtnkdkajllmopaaaGreat.TL

