/- The law FoldPlays, as the code runs. -/
import Derived.Test.YtgkhedmjkahclaaGreatDoorUFSn
import Derived.Test.YtgkhedmjkahclaaGreatDoorURecN
import Derived.Test.YtgkhedmjkahclaaGreatDoorURowsR
namespace Go.Proofs.YtgkhedmjkahclaaGreatDoor.TL
open Go
set_option linter.unusedVariables false
set_option linter.unusedSimpArgs false

theorem Fd.apply_ok {I : List Fn} (hI : Img I) (hn : NoPut I) {F : Fd} {n : Int} (h : F.Ok n) {r : Rec} (hr : r.sz) (hn0 : 0 ≤ n) : (F.apply I r).1.Ok (n + 1) := by
  by_cases hc : r.chk F.W.turn F.r = 0
  · have hw : (F.apply I r).1.W = (F.W.play I r.l).1 := by unfold Fd.apply; rw [if_neg (by simpa using hc)]
    have hro : (F.apply I r).1.r = (r.ros F.r).1 := (apply_tn I F r hc).2
    have hpt : (F.apply I r).1.pt = if r.pt = 0 ∧ r.pd = 0 then F.pt else r.pt := by unfold Fd.apply; rw [if_neg (by simpa using hc)]
    have hpd : (F.apply I r).1.pd = if r.pt = 0 ∧ r.pd = 0 then F.pd else r.pd := by unfold Fd.apply; rw [if_neg (by simpa using hc)]
    have hc0 := hc
    unfold Rec.chk at hc
    split at hc
    · cases hc
    split at hc
    · rename_i h2; exact absurd hc h2.2
    rename_i hpp
    split at hc
    · rename_i h3; exact absurd hc h3
    rename_i hrr
    split at hc
    · cases hc
    rename_i hpl
    have hl : r.l.length ≤ 32 := by
      have e : (pls r.l).length = ((r.ros F.r).1.all 32).length := by rw [Classical.byContradiction hpl]
      have := (r.ros F.r).1.all_len 32
      simp at e
      omega
    have hre : (r.ros F.r).1.e = F.r.e + r.c.length ∧ r.c.length ≤ 8 := by
      unfold Rec.ros at hrr ⊢
      split at hrr
      · simp at hrr
      · rename_i h8
        rw [if_neg h8]
        exact ⟨goW_e _ _ (by simpa using hrr), by omega⟩
    refine ⟨?_, ?_, ?_, ?_, ?_, ?_⟩
    · rw [hw]; exact (play_ok hI h.w r.l hr.b).mono (by omega)
    · rw [hw]; exact play_R hn h.R r.l
    · rw [hro]; exact ros_lt h.s
    · rw [hro]; have := h.e0; omega
    · rw [hro]; have := h.e; omega
    · rw [hpt, hpd]
      split
      · exact h.p
      · rename_i hz
        exact Classical.byContradiction fun h4 => hpp ⟨by omega, h4⟩
  · rw [apply_no I F r hc]
    exact ⟨h.w.mono (by omega), h.R, h.s, h.e0, by have := h.e; omega, h.p⟩

theorem rApp_eq (I : List Fn) {F : Fd} {n : Int} (h : F.Ok n) (r : Rec) : rApp F.r F.pt F.pd F.W.turn r = (rSt (F.apply I r).1.r (F.apply I r).1.pt (F.apply I r).1.pd (F.apply I r).1.W.turn, (F.apply I r).2) := by
  unfold rApp
  by_cases hc : r.chk F.W.turn F.r = 0
  · rw [if_neg (by simpa using hc)]
    have h1 := apply_tn I F r hc
    have h2 := apply_er I F r
    rw [h2, hc, h1.1, h1.2]
    have hpt : (F.apply I r).1.pt = if r.pt = 0 ∧ r.pd = 0 then F.pt else r.pt := by unfold Fd.apply; rw [if_neg (by simpa using hc)]
    have hpd : (F.apply I r).1.pd = if r.pt = 0 ∧ r.pd = 0 then F.pd else r.pd := by unfold Fd.apply; rw [if_neg (by simpa using hc)]
    rw [hpt, hpd]
    unfold Rec.chk at hc
    split at hc
    · cases hc
    split at hc
    · rename_i h2; exact absurd hc h2.2
    rename_i hpp
    by_cases hz : r.pt = 0 ∧ r.pd = 0
    · rw [if_pos hz, if_pos hz, if_neg (by omega), if_neg (by omega)]
    · have hpc : pchk r.pt r.pd = 0 := Classical.byContradiction fun h4 => hpp ⟨by omega, h4⟩
      have := pchk_0 hpc
      rw [if_neg hz, if_neg hz, if_pos (by omega), if_pos (by omega)]
  · rw [if_pos hc, apply_no I F r hc, apply_er]

theorem mkR_sz {F : Fd} {n : Int} (h : F.Ok n) (hn : n ≤ 10000) (x : Stp) : (mkR F x).sz := by
  have ht := h.w.sm F.W.turn (by simp)
  have hf := fit_wf (t := F.W.turn) (cs := x.c) (L := x.l.take 8) h.s (by omega)
  have hm : ∀ (y : Rec), y.sz → (mkA x y).sz := fun y hy => by
    unfold mkA
    split
    · exact ⟨hy.c, hy.v, hy.l, hy.b⟩
    · exact hy
  have hk : ∀ (y : Rec), y.sz → (mkB x y).sz := fun y hy => by
    unfold mkB
    split
    · exact ⟨hy.c, hy.v, hy.l, hy.b⟩
    split
    · exact ⟨hy.c, hy.v, by simp only [List.length_drop]; have := hy.l; omega, fun p hp => hy.b p (List.mem_of_mem_drop hp)⟩
    split
    · exact ⟨hy.c, hy.v, hy.l, hy.b⟩
    · exact hy
  refine hk _ (hm _ ⟨?_, ?_, ?_, ?_⟩)
  · have := hf.cl; omega
  · intro c hc; have := (hf.c c hc).l; omega
  · have := hf.ll; omega
  · intro p hp; have := (hf.l p hp).l; omega

theorem plsG_cases (n : Int) : plsG n = [0] ∨ plsG n = [0, 1] ∨ plsG n = [0, 1, 2] ∨ plsG n = [0, 1, 2, 3] ∨ plsG n = [0, 1, 2, 3, 4] ∨ plsG n = [0, 1, 2, 3, 4, 5] ∨ plsG n = [0, 1, 2, 3, 4, 5, 6] ∨ plsG n = [0, 1, 2, 3, 4, 5, 6, 7] := by
  have hn : 0 ≤ bits .and .i64 n 7 ∧ bits .and .i64 n 7 ≤ 7 := i64_and_le n 7 (by decide)
  unfold plsG
  generalize bits .and .i64 n 7 = m at hn
  have hm : m = 0 ∨ m = 1 ∨ m = 2 ∨ m = 3 ∨ m = 4 ∨ m = 5 ∨ m = 6 ∨ m = 7 := by omega
  rcases hm with rfl | rfl | rfl | rfl | rfl | rfl | rfl | rfl <;> decide
theorem plsG_ok (n : Int) : fchk gameI (plsG n) 2 2 = 0 ∧ (plsG n).length ≤ 8 := by
  have hg : chkV gameI = 0 := by decide
  have key : ∀ l : List Int, (Ros.mk (setOf l) 0).has 0 = true → (Ros.mk (setOf l) 0).len = l.length → fchk gameI l 2 2 = 0 := fun l h1 h2 => by
    unfold fchk
    rw [if_neg (by simpa using hg), if_neg (by decide), if_neg (by rw [h1, h2]; simp)]
  rcases plsG_cases n with h | h | h | h | h | h | h | h <;> rw [h] <;> exact ⟨key _ (by decide) (by decide), by decide⟩
theorem fd0_ok (n : Int) : (fd0 7 (plsG n) 2 2).Ok 0 := ⟨(wd0_ok 7).mono (by omega), wd0_R (by decide), setOf_lt _, by simp [fd0], by simp [fd0], by simp [fd0, pchk]⟩

def rowS (l : List Stp) : List TV := (l.map Stp.cells).flatten
@[simp] theorem rowS_nil : rowS [] = [] := rfl
@[simp] theorem rowS_cons (a : Stp) (l : List Stp) : rowS (a :: l) = a.cells ++ rowS l := by simp [rowS]
@[simp] theorem rowS_len (l : List Stp) : (rowS l).length = l.length * 6 := by
  induction l with
  | nil => rfl
  | cons a l ih => simp [ih, Stp.cells]; omega
theorem rowS_drop (l : List Stp) : ∀ k, (rowS l).drop (k * 6) = rowS (l.drop k) := by
  induction l with
  | nil => simp
  | cons a l ih =>
    intro k
    cases k with
    | zero => simp
    | succ k =>
      have e : (k + 1) * 6 = k * 6 + 6 := by omega
      simp [Stp.cells, e, ih]
theorem rowS_at {l : List Stp} {k : Nat} (h : k < l.length) : (rowS l).drop (k * 6) = (l[k]).cells ++ rowS (l.drop (k + 1)) := by
  rw [rowS_drop, List.drop_eq_getElem_cons h, rowS_cons]

set_option maxHeartbeats 8000000 in
set_option maxRecDepth 100000 in
theorem FoldPlays_T (n : Int) (L : List Stp) (hL : ∀ x ∈ L, x.c.length ≤ maxLen) : callT Tryz.prog 3 [i64c n, .isl (rowS L) L.length] ⟨[], []⟩ (fun r h => r = .v (.bool true)) := by
  refine callT_of_body [0, 1, 4, 5, 6, 7, 8, 9, 10, 11, 12, 13, 14, 16, 25, 39, 79] [] Tryz.func3 rfl (by decide) (by kernel_rfl) rfl ?_
  have hG := Game22_T n
  have hpl := plsG_ok n
  have hN := FNew_T gameI (by decide) 7 (plsG n) (by omega) 2 2 hpl.1
  have hO := OfR_T (plsG n) (by omega)
  have h0 := fd0_ok n
  have hf0 : (fd0 7 (plsG n) 2 2).r = ⟨setOf (plsG n), 0⟩ ∧ (fd0 7 (plsG n) 2 2).pt = 2 ∧ (fd0 7 (plsG n) 2 2).pd = 2 ∧ (fd0 7 (plsG n) 2 2).W.turn = 0 := ⟨rfl, rfl, rfl, rfl⟩
  generalize fd0 7 (plsG n) 2 2 = F0 at hN h0 hf0
  simp only [fdGame, u64c, i64c, rRos] at hG hN hO
  simp [i64c]
  refine callT_eq [] Awk22_T ?_
  simp
  refine callT_eq [] hG ?_
  simp
  intro v5
  refine callT_exa [(2000, 2000), (2001, 2001), (2002, 2002), (2003, 2003), (2004, 2004), (2005, 2005), (2006, 2006)] hN ?_
  simp [i64c, i64v, u32v]
  intro v V u
  refine drawT_cut (α := Nat) (fun _ => True) (fun x => ⟨[(1, .isl (rowS L) L.length), (6, .at 2000 v 0), (8, .at 8 x 0)], [(8, x, ⟨0, rSt F0.r F0.pt F0.pd F0.W.turn⟩)] ++ fdH v V u gameI F0⟩) ?_ ?_
  · refine draw_h (pl [0, 1, 3, 4] (.alt 2 (pl [5, 6] .nil) 6 (pl [2, 5] .nil))) 7 [(2, [0, 1]), (6, [])] (by kernel_rfl) (by kernel_rfl) (by kernel_rfl) (by kernel_rfl) ?_
    simp [i64v, i64c, u32v]
    refine ⟨?_, fun v8 => ?_⟩
    · refine callT_eq [] hO ?_
      simp [i64v, i64c, u32v]
      intro v8
      exact SLx.at v8 trivial (by simp [i64v, i64c, u32v]) (by simp [i64v, i64c, u32v, rSt, hf0])
    · refine callT_eq [] hO ?_
      simp [i64v, i64c, u32v]
      exact SLx.at v8 trivial (by simp [i64v, i64c, u32v]) (by simp [i64v, i64c, u32v, rSt, hf0])
  rintro v8 -
  simp [i64v, i64c, u32v]
  refine ⟨Nat × Fd × Nat, fun x => x.1 ≤ L.length ∧ x.1 ≤ 20 ∧ x.2.1.Ok x.1, fun x => ⟨[(1, .isl (rowS L) L.length), (6, .at 2000 v 0), (8, .at 8 v8 0), (9, i64c x.1)], [(8, v8, ⟨0, rSt x.2.1.r x.2.1.pt x.2.1.pd x.2.1.W.turn⟩)] ++ fdH v V x.2.2 gameI x.2.1⟩, fun x => L.length - x.1, ?_, ?_⟩
  · exact SLx.fin _ ⟨(0, F0, u), ⟨by simp, by simp, h0⟩, rfl⟩ (by simp [i64v, i64c, u32v]) (by simp [i64v, i64c, u32v])
  rintro ⟨k, F, u⟩ ⟨hk, hk2, hF⟩
  simp only at hk hk2 hF ⊢
  by_cases g : k < L.length
  · have g' : (k : Int) < L.length := by omega
    by_cases g2 : k < 20
    · have g2' : (k : Int) < 20 := by omega
      have e1 : IntKind.i64.wrap ((k : Int) + 1) = ((k + 1 : Nat) : Int) := by rw [i64_id (by omega) (by omega)]; rfl
      have hat := rowS_at g
      have hmk := Make22_T v V u gameI F k hF (by omega) L[k] (hL _ (List.getElem_mem g))
      have hsn := FSnap_T v V u gameI F k hF (by omega)
      have hsz := mkR_sz hF (by omega) L[k]
      have heb := hF.e
      have htn := hF.w.sm F.W.turn (by simp)
      generalize mkR F L[k] = r at hmk hsz
      have hap := FApply_T v V u gameI F r _ img_game hF.w (by omega) hF.s hF.e0 (by omega) hsz
      have hto := RcTold_T r hsz.c (by have := hsz.l; omega) hsz.b
      have hra := RApp22_T F.r F.pt F.pd F.W.turn r hF.s hsz hF.e0 (by omega) (by omega) (by omega)
      rw [rApp_eq gameI hF] at hra
      have hF' := Fd.apply_ok img_game noput_game hF hsz (by omega)
      have hno : (F.apply gameI r).2 ≠ 0 → (F.apply gameI r).1 = F := fun h => apply_no gameI F r (by rwa [apply_er] at h)
      generalize F.apply gameI r = q at hap hra hF' hno
      obtain ⟨F', e⟩ := q
      simp only at hap hra hF' hno
      have his := fun u' => Is22_T v V u' gameI F' (k + 1) hF' (by omega)
      have hsn' := fun u' => FSnap_T v V u' gameI F' (k + 1) hF' (by omega)
      have hcl : r.cells = [i64c r.t, .isl (rowG r.c) r.c.length, i64c r.pt, i64c r.pd, .isl (rowP r.l) r.l.length] := rfl
      rw [hcl] at hmk hap hto hra
      simp only [rSt, Stp.cells, i64c] at hmk hap hto hra his
      simp [i64v, i64c, u32v, g, g', g2, g2', hat, rSt, Stp.cells, rowB_clo8]
      refine callT_eq [(2000, 2000), (2001, 2001), (2002, 2002), (2003, 2003), (2004, 2004), (2005, 2005), (2006, 2006)] hmk ?_
      simp [i64v, i64c, u32v]
      intro v10
      refine callT_eq [(2000, 2000), (2001, 2001), (2002, 2002), (2003, 2003), (2004, 2004), (2005, 2005), (2006, 2006)] hsn ?_
      simp [i64v, i64c, u32v]
      refine callT_ex [(2000, 2000), (2001, 2001), (2002, 2002), (2003, 2003), (2004, 2004), (2005, 2005), (2006, 2006)] hap ?_
      simp [i64v, i64c, u32v]
      intro u1
      refine drawT_cut (α := Nat) (fun _ => True) (fun x => ⟨[(1, .isl (rowS L) L.length), (6, .at 2000 v 0), (8, .at 8 v8 0), (9, i64c k), (11, .v (.string (bs (fdB F)))), (12, i64c e), (13, .at 13 x 0), (14, i64c e)], [(8, v8, ⟨0, rSt F.r F.pt F.pd F.W.turn⟩), (13, x, ⟨0, rSt F'.r F'.pt F'.pd F'.W.turn⟩)] ++ fdH v V u1 gameI F'⟩) ?_ ?_
      · refine draw_h (pl [0, 1] (.alt 2 (pl [] (.alt 3 (pl [4, 5, 6, 7, 8] .nil) 7 (pl [3, 4, 5, 6, 8] .nil))) 7 (pl [2, 3, 4, 5, 6, 8] .nil))) 9 [(2, [1]), (3, [0, 1, 2]), (7, []), (8, [0, 1, 2, 3, 4, 5, 7])] (by kernel_rfl) (by kernel_rfl) (by kernel_rfl) (by kernel_rfl) ?_
        simp [i64v, i64c, u32v]
        refine ⟨?_, fun v13 => ?_⟩
        · refine callT_eq [] hto ?_
          simp [i64v, i64c, u32v]
          refine ⟨?_, fun v13 => ?_⟩
          · refine callT_eq [] hra ?_
            simp [i64v, i64c, u32v]
            intro v13
            exact SLx.at v13 trivial (by simp [i64v, i64c, u32v, rSt]) (by simp [i64v, i64c, u32v, rSt])
          · refine callT_eq [] hra ?_
            simp [i64v, i64c, u32v]
            exact SLx.at v13 trivial (by simp [i64v, i64c, u32v, rSt]) (by simp [i64v, i64c, u32v, rSt])
        · refine callT_eq [] hto ?_
          simp [i64v, i64c, u32v]
          refine callT_eq [] hra ?_
          simp [i64v, i64c, u32v]
          exact SLx.at v13 trivial (by simp [i64v, i64c, u32v, rSt]) (by simp [i64v, i64c, u32v, rSt])
      rintro v13 -
      simp [i64v, i64c, u32v, rSt]
      refine callT_eq [(2000, 2000), (2001, 2001), (2002, 2002), (2003, 2003), (2004, 2004), (2005, 2005), (2006, 2006)] (his u1) ?_
      simp [i64v, i64c, u32v]
      by_cases he : e = 0
      · subst he
        simp [i64v, i64c, u32v]
        exact SLx.again (k + 1, F', u1) ⟨by simp only; omega, by simp only; omega, hF'⟩ (by simp only; omega) (by simp [i64v, i64c, u32v, e1]) (by simp [i64v, i64c, u32v])
      · have hff := hno he
        subst hff
        simp [i64v, i64c, u32v, he]
        refine callT_eq [(2000, 2000), (2001, 2001), (2002, 2002), (2003, 2003), (2004, 2004), (2005, 2005), (2006, 2006)] (hsn' u1) ?_
        simp [i64v, i64c, u32v]
        exact SLx.again (k + 1, F', u1) ⟨by simp only; omega, by simp only; omega, hF'⟩ (by simp only; omega) (by simp [i64v, i64c, u32v, e1]) (by simp [i64v, i64c, u32v])
    · have g2' : ¬ (k : Int) < 20 := by omega
      simp [i64v, i64c, u32v, g, g', g2, g2']
  · have g' : ¬ (k : Int) < L.length := by omega
    simp [i64v, i64c, u32v, g, g']
end Go.Proofs.YtgkhedmjkahclaaGreatDoor.TL
