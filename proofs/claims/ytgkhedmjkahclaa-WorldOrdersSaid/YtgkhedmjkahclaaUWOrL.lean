/- The law WorldOrders, walked. -/
import Derived.Test.YtgkhedmjkahclaaUWOrd
namespace Go.Proofs.Ytgkhedmjkahclaa.TL
open Go
set_option linter.unusedVariables false
set_option linter.unusedSimpArgs false

def uG (p k c d : Int) : Un := ⟨1, k, p, c, d, 1000⟩
def wG1 (p k b : Int) : Wd := { wd0 1 with tab := ⟨[uG p k b b], 2⟩, e0 := 2, turn := 1, dice := 11400714819323198486 }
def wG2 (p k b : Int) : Wd := { wd0 1 with tab := ⟨[uG p k b b], 2⟩, e0 := 3, turn := 2, refused := 1, dice := 4354685564936845355 }
def wG3 (p k b x : Int) : Wd := { wd0 1 with tab := ⟨[uG p k x b], 2⟩, e0 := 5, turn := 3, refused := 1, dice := 15755400384260043840 }
def oB (k b : Int) : Ord := ⟨3, 0, k, b⟩
def oM (x : Int) : Ord := ⟨1, 1, x, 0⟩
theorem wchk_one {p : Int} {o : Ord} (h0 : 0 ≤ p) (h1 : p ≤ 31) (ho : o.chk = 0) : wchk [⟨p, [o]⟩] = 0 := by
  have a1 : ¬ p < 0 := by omega
  have a2 : ¬ 32 ≤ p := by omega
  simp [wchk, wgo, plyChk, plyAt, a1, a2, batchChk, chkAll, ho]
theorem oB_chk {k b : Int} (hk : 0 ≤ k ∧ k ≤ 255) (hb : 0 ≤ b ∧ b ≤ 511) : (oB k b).chk = 0 := by
  have a1 : ¬ k < 0 := by omega
  have a2 : ¬ 255 < k := by omega
  have a3 : ¬ b < -1000 := by omega
  have a4 : ¬ 1000 < b := by omega
  simp [Ord.chk, oB, far, a1, a2, a3, a4]
theorem oM_chk {x : Int} (hx : 0 ≤ x ∧ x ≤ 511) : (oM x).chk = 0 := by
  have a3 : ¬ x < -1000 := by omega
  have a4 : ¬ 1000 < x := by omega
  simp [Ord.chk, oM, far, a3, a4]
theorem unitG (p k c d : Int) : Tab.unit ⟨[uG p k c d], 2⟩ 1 = (uG p k c d, true) := by simp [Tab.unit, found, pos, uG]
theorem foundG (p k c d : Int) : found [uG p k c d] 1 = true := by simp [found, pos, uG]

theorem play_1 {p k b : Int} (hp : 0 ≤ p ∧ p ≤ 31) (hk : 0 ≤ k ∧ k ≤ 255) (hb : 0 ≤ b ∧ b ≤ 511) : (wd0 1).play gameI [⟨p, [oB k b]⟩] = (wG1 p k b, 0) := by
  have hv : (oB k b).valid (wd0 1).tab p = 0 := by simp [Ord.valid, oB_chk hk hb]; simp [oB]
  have hs : (wd0 1).tab.spawn k p b b = (⟨[uG p k b b], 2⟩, 1) := by
    have : (wd0 1).tab.canSpawn k p b b = true := by
      simp [Tab.canSpawn, wd0, mayF]
      omega
    simp [Tab.spawn, this]
    simp [wd0, uG]
  have e1 : playL gameI (wd0 1, 2000) [⟨p, [oB k b]⟩] = ({ wd0 1 with tab := ⟨[uG p k b b], 2⟩, e0 := 1 }, 1991) := by
    simp only [playL, playB, List.foldl_cons, List.foldl_nil, playO, hv, if_true]
    rw [show [(oB k b).u, (oB k b).k, (oB k b).a, (oB k b).b] = [0, 3, k, b] from rfl, wrun_build _ _ _ _ _ (by decide), hs]
    rfl
  unfold Wd.play
  rw [if_pos (wchk_one hp.1 hp.2 (oB_chk hk hb)), e1]
  simp only
  rw [wrun_turn _ _ _ (by decide) dice_1 (by decide)]
  rfl
theorem play_2 {p q k b x : Int} (hq : 0 ≤ q ∧ q ≤ 31) (hne : q ≠ p) (hx : 0 ≤ x ∧ x ≤ 511) : (wG1 p k b).play gameI [⟨q, [oM x]⟩] = (wG2 p k b, 0) := by
  have hv : ¬ (oM x).valid (wG1 p k b).tab q = 0 := by
    have h1 : (Tab.unit ⟨[uG p k b b], 2⟩ 1).1.b ≠ q := by rw [unitG]; simpa [uG] using Ne.symm hne
    simp [Ord.valid, oM_chk hx]
    simp [oM, wG1, foundG, h1]
  have e1 : playL gameI (wG1 p k b, 2000) [⟨q, [oM x]⟩] = ({ wG1 p k b with refused := 1 }, 2000) := by
    simp only [playL, playB, List.foldl_cons, List.foldl_nil, playO, hv, if_false]
    rfl
  unfold Wd.play
  rw [if_pos (wchk_one hq.1 hq.2 (oM_chk hx)), e1]
  simp only
  rw [wrun_turn _ _ _ (by decide) dice_2 (by decide)]
  rfl
theorem play_3 {p k b x : Int} (hp : 0 ≤ p ∧ p ≤ 31) (hx : 0 ≤ x ∧ x ≤ 511) : (wG2 p k b).play gameI [⟨p, [oM x]⟩] = (wG3 p k b x, 0) := by
  have hv : (oM x).valid (wG2 p k b).tab p = 0 := by
    have h1 : (Tab.unit ⟨[uG p k b b], 2⟩ 1).1.b = p := by rw [unitG]; rfl
    simp [Ord.valid, oM_chk hx]
    simp [oM, wG2, foundG, h1]
  have hs : (wG2 p k b).tab.set 1 2 x = (⟨[uG p k x b], 2⟩, true) := by
    have hm : mayF 2 x = true := by simp [mayF]; omega
    simp [Tab.set, wG2, foundG, hm]
    simp [uG, pos, Un.setF]
  have e1 : playL gameI (wG2 p k b, 2000) [⟨p, [oM x]⟩] = ({ wG2 p k b with tab := ⟨[uG p k x b], 2⟩, e0 := 4 }, 1987) := by
    simp only [playL, playB, List.foldl_cons, List.foldl_nil, playO, hv, if_true]
    rw [show [(oM x).u, (oM x).k, (oM x).a, (oM x).b] = [1, 1, x, 0] from rfl, wrun_move _ _ _ _ _ (by decide), hs]
    rfl
  unfold Wd.play
  rw [if_pos (wchk_one hp.1 hp.2 (oM_chk hx)), e1]
  simp only
  rw [wrun_turn _ _ _ (by decide) dice_3 (by decide)]
  rfl
theorem WRef_T (V : Vs) (u : Nat) (I : List Fn) (W : Wd) : callT Try.prog 17 [.at 2001 V.w 0] ⟨[], wdH V u I W⟩ (fun r h => r = i64c W.refused ∧ h = wdH V u I W) := by
  refine callT_of_body [0, 2] [2001, 2002, 2003, 2004, 2005, 2006] Try.func17 rfl (by decide) (by kernel_rfl) rfl ?_
  simp [i64v, i64c]
theorem OfI_T (u : Nat) (l : List Ord) (hl : l.length ≤ 1000000) : callT Try.prog 15 [.sl 1000 u 0 l.length] ⟨[], [(1000, u, ⟨4, rowC l⟩)]⟩
    (fun r h => r = .isl (rowC (l.take 8)) (l.take 8).length ∧ h = [(1000, u, ⟨4, rowC l⟩)]) := by
  refine callT.mono (Of_T u l hl) fun r h hh => ?_
  obtain ⟨u', rfl, rfl⟩ := hh
  refine VLx.frz 8 rfl (VLx.done ?_)
  have e : List.take ((l.take 8).length * 4) (rowC (l.take 8)) = rowC (l.take 8) := by rw [rowC_take, List.take_of_length_le (Nat.le_refl _)]
  simp only [List.length_take] at e
  simp [e]

set_option maxHeartbeats 8000000 in
set_option maxRecDepth 100000 in
theorem WorldOrders_T (k b x p : Int) : callT Try.prog 4 [i64c k, i64c b, i64c x, i64c p] ⟨[], []⟩ (fun r h => r = .v (.bool true)) := by
  refine callT_of_body [0, 1, 2, 3, 8, 9, 10, 11, 12, 13, 14, 16, 18, 20, 48, 73, 91, 102, 109] [] Try.func4 rfl (by decide) (by kernel_rfl) rfl ?_
  have hk : 0 ≤ bits .and .i64 k 255 ∧ bits .and .i64 k 255 ≤ 255 := i64_and_le k 255 (by decide)
  have hb : 0 ≤ bits .and .i64 b 511 ∧ bits .and .i64 b 511 ≤ 511 := i64_and_le b 511 (by decide)
  have hx : 0 ≤ bits .and .i64 x 511 ∧ bits .and .i64 x 511 ≤ 511 := i64_and_le x 511 (by decide)
  have hp : 0 ≤ bits .and .i64 p 31 ∧ bits .and .i64 p 31 ≤ 31 := i64_and_le p 31 (by decide)
  simp [i64c]
  refine callT_eq [] Awk10_T ?_
  simp [i64c]
  generalize bits .and .i64 k 255 = k at hk ⊢
  generalize bits .and .i64 b 511 = b at hb ⊢
  generalize bits .and .i64 x 511 = x at hx ⊢
  generalize bits .and .i64 p 31 = p at hp ⊢
  obtain ⟨p1, hp1, hp1'⟩ : ∃ p1 : Int, p1 = (p + 1).tmod 32 ∧ (0 ≤ p1 ∧ p1 ≤ 31) ∧ p1 ≠ p := ⟨_, rfl, by rw [Int.tmod_eq_emod_of_nonneg (by omega)]; omega⟩
  have hw1 : IntKind.i64.wrap (p + 1) = p + 1 := i64_id (by omega) (by omega)
  have hN := WNew_T gameI (by decide) 1 chk_game
  have hP1 := fun (V : Vs) (u : Nat) => Play_T V u gameI (wd0 1) [⟨p, [oB k b]⟩] 0 img_game (wd0_ok 1) (by decide) (by simp) (by simp)
  have hok1 : (wG1 p k b).Ok 1000002 := by have := play_ok img_game (wd0_ok 1) [⟨p, [oB k b]⟩] (by simp); rw [play_1 hp hk hb] at this; exact this
  have hP2 := fun (V : Vs) (u : Nat) => Play_T V u gameI (wG1 p k b) [⟨p1, [oM x]⟩] _ img_game hok1 (by decide) (by simp) (by simp)
  have hok2 : (wG2 p k b).Ok 2000004 := by have := play_ok img_game hok1 [⟨p1, [oM x]⟩] (by simp); rw [play_2 hp1'.1 hp1'.2 hx] at this; exact this
  have hP3 := fun (V : Vs) (u : Nat) => Play_T V u gameI (wG2 p k b) [⟨p, [oM x]⟩] _ img_game hok2 (by decide) (by simp) (by simp)
  rw [play_1 hp hk hb] at hP1
  rw [play_2 hp1'.1 hp1'.2 hx] at hP2
  rw [play_3 hp hx] at hP3
  simp only [u64c] at hN
  refine callT_eq [] Game_T ?_
  simp
  refine callT_exa [(2001, 2001), (2002, 2002), (2003, 2003), (2004, 2004), (2005, 2005), (2006, 2006)] hN ?_
  simp [i64c, i64v]
  refine ⟨by decide, fun V u v42 => ?_⟩
  have hO1 := OfI_T v42 [oB k b] (by simp)
  have hO2 := fun v76 => OfI_T v76 [oM x] (by simp)
  have r1 : (wG1 p k b).refused = 0 := rfl
  have r2 : (wG2 p k b).refused = 1 := rfl
  have r3 : (wG3 p k b x).refused = 1 := rfl
  have t1 : (wG1 p k b).tab = ⟨[uG p k b b], 2⟩ := rfl
  have t2 : (wG2 p k b).tab = ⟨[uG p k b b], 2⟩ := rfl
  have t3 : (wG3 p k b x).tab = ⟨[uG p k x b], 2⟩ := rfl
  have hok3 : (wG3 p k b x).Ok 3000006 := by have := play_ok img_game hok2 [⟨p, [oM x]⟩] (by simp); rw [play_3 hp hx] at this; exact this
  have hU1 := fun (V : Vs) (u : Nat) => Unit_T V.t u (wG1 p k b).tab 1 hok1.wf.ok
  have hU2 := fun (V : Vs) (u : Nat) => Unit_T V.t u (wG2 p k b).tab 1 hok2.wf.ok
  have hU3 := fun (V : Vs) (u : Nat) => Unit_T V.t u (wG3 p k b x).tab 1 hok3.wf.ok
  have hR1 := fun (V : Vs) (u : Nat) => WRef_T V u gameI (wG1 p k b)
  have hR2 := fun (V : Vs) (u : Nat) => WRef_T V u gameI (wG2 p k b)
  have hR3 := fun (V : Vs) (u : Nat) => WRef_T V u gameI (wG3 p k b x)
  simp only [r1, r2, r3, i64c] at hR1 hR2 hR3
  have q1 : (wG1 p k b).tab.unit 1 = (uG p k b b, true) := unitG _ _ _ _
  have q2 : (wG2 p k b).tab.unit 1 = (uG p k b b, true) := unitG _ _ _ _
  have q3 : (wG3 p k b x).tab.unit 1 = (uG p k x b, true) := unitG _ _ _ _
  simp only [q1, q2, q3, Un.cells, uG, i64v] at hU1 hU2 hU3
  clear q1 q2 q3 t1 t2 t3 r1 r2 r3
  simp [oB, oM, rowC, Ord.cells, i64c] at hO1 hO2
  simp only [oB, oM, rowP, Ply.cells, rowC, Ord.cells, i64c, List.map_cons, List.map_nil, List.flatten_cons, List.flatten_nil, List.append_nil, List.cons_append, List.nil_append, List.length_cons, List.length_nil, Nat.zero_add] at hP1 hP2 hP3
  generalize wG1 p k b = W1 at *
  generalize wG2 p k b = W2 at *
  generalize wG3 p k b x = W3 at *
  refine callT_eq [(1000, 42)] hO1 ?_
  simp
  intro v45
  refine callT.pre (fn_of (hP1 V u)) (CLx.frz 45 rfl (CLx.done ?_))
  simp
  refine callT_ex [(2001, 2001), (2002, 2002), (2003, 2003), (2004, 2004), (2005, 2005), (2006, 2006)] (hP1 V u) ?_
  simp [i64v]
  intro u1
  refine callT_eq [(1000, 2002), (1001, 2003)] (hU1 V u1) ?_
  simp [i64v]
  intro v11
  refine callT_eq [(2001, 2001), (2002, 2002), (2003, 2003), (2004, 2004), (2005, 2005), (2006, 2006)] (hR1 V u1) ?_
  simp [i64v]
  intro v76
  refine callT_eq [(1000, 76)] (hO2 v76) ?_
  simp [i64v, hw1, ← hp1]
  intro v84
  refine callT.pre (fn_of (hP2 V u1)) (CLx.frz 84 rfl (CLx.done ?_))
  simp
  refine callT_ex [(2001, 2001), (2002, 2002), (2003, 2003), (2004, 2004), (2005, 2005), (2006, 2006)] (hP2 V u1) ?_
  simp [i64v]
  intro u2
  refine callT_eq [(2001, 2001), (2002, 2002), (2003, 2003), (2004, 2004), (2005, 2005), (2006, 2006)] (hR2 V u2) ?_
  simp [i64v]
  refine callT_eq [(1000, 2002), (1001, 2003)] (hU2 V u2) ?_
  simp [i64v]
  intro v14 v107
  refine callT.pre (fn_of (hP3 V u2)) (CLx.frz 107 rfl (CLx.done ?_))
  simp
  refine callT_ex [(2001, 2001), (2002, 2002), (2003, 2003), (2004, 2004), (2005, 2005), (2006, 2006)] (hP3 V u2) ?_
  simp [i64v]
  intro u3
  refine callT_eq [(1000, 2002), (1001, 2003)] (hU3 V u3) ?_
  simp [i64v]
  intro v16 v18
  refine callT_eq [(2001, 2001), (2002, 2002), (2003, 2003), (2004, 2004), (2005, 2005), (2006, 2006)] (hR3 V u3) ?_
  simp [i64v]
end Go.Proofs.Ytgkhedmjkahclaa.TL
