/- The laws of the fold: awake; which games may be. -/
import Derived.Test.YtgkhedmjkahclaaGreatDoorUFold
namespace Go.Proofs.YtgkhedmjkahclaaGreatDoor.TL
open Go
set_option linter.unusedVariables false
set_option linter.unusedSimpArgs false

mutual
theorem frzT_Clo (b ver : Nat) (B : Blk) : ∀ x : TV, Clo x → frzT b ver B x = x
  | .v _, _ => rfl
  | .any, _ => rfl
  | .isl _ _, _ => rfl
  | .iat _, _ => rfl
  | .fn _ _, _ => rfl
  | .at _ _ _, h => h.elim
  | .sl _ _ _ _, h => h.elim
  | .mp _ _, h => h.elim
  | .ifc t x, h => by simp only [frzT]; rw [frzT_Clo b ver B x h]
  | .opt g x, h => by simp only [frzT]; rw [frzT_Clo b ver B x h]
  | .agg l, h => by simp only [frzT]; rw [frzL_Clo b ver B l h]
  | .tup l, h => by simp only [frzT]; rw [frzL_Clo b ver B l h]
theorem frzL_Clo (b ver : Nat) (B : Blk) : ∀ l : List TV, CloL l → frzL b ver B l = l
  | [], _ => rfl
  | x :: l, h => by simp only [frzL]; rw [frzT_Clo b ver B x h.1, frzL_Clo b ver B l h.2]
end
@[simp] theorem frzL_rowU (b ver : Nat) (B : Blk) (l : List Un) : frzL b ver B (rowU l) = rowU l := frzL_Clo _ _ _ _ (rowU_CloL l)
@[simp] theorem frzL_i64v (b ver : Nat) (B : Blk) (l : List Int) : frzL b ver B (l.map i64v) = l.map i64v := frzL_Clo _ _ _ _ (i64s_CloL l)
theorem Good_T (t d : Int) : callT Tryz.prog 59 [.agg [i64c t, i64c d]] ⟨[], []⟩ (fun r h => r = .v (.bool (decide (pchk t d = 0))) ∧ h = []) := by
  refine callT_of_body [0, 1, 2] [] Tryz.func59 rfl (by decide) (by kernel_rfl) rfl ?_
  by_cases h1 : 1 ≤ t
  · by_cases h2 : t ≤ 64
    · by_cases h3 : 1 ≤ d
      · by_cases h4 : d ≤ 6
        · have e : pchk t d = 0 := by unfold pchk; rw [if_neg (by omega)]
          simp [i64c, h1, h2, h3, h4, e]
        · have e : pchk t d = 4 := by unfold pchk; rw [if_pos (by omega)]
          simp [i64c, h1, h2, h3, h4, e]
      · have e : pchk t d = 4 := by unfold pchk; rw [if_pos (by omega)]
        simp [i64c, h1, h2, h3, e]
    · have e : pchk t d = 4 := by unfold pchk; rw [if_pos (by omega)]
      simp [i64c, h1, h2, e]
  · have e : pchk t d = 4 := by unfold pchk; rw [if_pos (by omega)]
    simp [i64c, h1, e]

def openF (ps : List Int) : Bool := decide ((Ros.mk (setOf ps) 0).len = ps.length) && (Ros.mk (setOf ps) 0).has 0
def rec22 : Rec := ⟨0, [], 0, 0, [⟨0, []⟩]⟩
theorem rec22_w (E : Env) (y : Value) (h : RV E (.agg [.v (.int .i64 0), .v (.slice none 0 0), .v (.int .i64 0), .v (.int .i64 0), .isl [.v (.int .i64 0), .v (.slice none 0 0)] 1]) y) : RV E (.agg rec22.cells) y := by
  simp only [rec22, Rec.cells, rowG, rowP, Ply.cells, rowC, i64c, List.map_nil, List.map_cons, List.flatten_nil, List.flatten_cons, List.append_nil, List.length_nil, List.length_cons, RV, RVl] at h ⊢
  obtain ⟨zs, h1, h2, ⟨a, ha, ha'⟩, ⟨b, hb, hb'⟩, ⟨c, hc, hc'⟩, ⟨d, hd, hd'⟩, ⟨e, he, he'⟩, -⟩ := h
  refine ⟨zs, h1, h2, ⟨a, ha, ha'⟩, ⟨b, hb, .inl ⟨trivial, trivial, hb'⟩⟩, ⟨c, hc, hc'⟩, ⟨d, hd, hd'⟩, ⟨e, he, ?_⟩, trivial⟩
  rcases he' with ⟨h0, -⟩ | ⟨a', cap, k1, k2, k3⟩
  · cases h0
  · refine .inr ⟨a', cap, k1, k2, ?_⟩
    rcases k3 with k3 | ⟨k3, ⟨f, k4, k5⟩, ⟨g, k6, k7⟩, -⟩
    · cases k3
    · exact .inr ⟨k3, ⟨f, k4, k5⟩, ⟨g, k6, .inl ⟨trivial, trivial, k7⟩⟩, trivial⟩

def fdA : Fd := (fd0 7 [0] 2 2).apply gameI rec22 |>.1
theorem fdA_facts : rec22.chk (fd0 7 [0] 2 2).W.turn (fd0 7 [0] 2 2).r = 0 ∧ (rec22.ros (fd0 7 [0] 2 2).r).1.s = 1 ∧ (rec22.ros (fd0 7 [0] 2 2).r).1.e = 0 := by decide

set_option maxHeartbeats 4000000 in
set_option maxRecDepth 100000 in
theorem Awk22_T : callT Tryz.prog 4 [] ⟨[], []⟩ (fun r h => r = .v (.bool true) ∧ h = []) := by
  refine callT_of_body [0, 1, 2, 3, 21] [] Tryz.func4 rfl (by decide) (by kernel_rfl) rfl ?_
  have hG := Game22_T 0
  have hp0 : plsG 0 = [0] := by decide
  have hN := FNew_T gameI (by decide) 7 [0] (by decide) 2 2 (by decide)
  rw [hp0] at hG
  simp only [fdGame, u64c, i64c, List.map_cons, List.map_nil, List.length_cons, List.length_nil, Nat.zero_add] at hG hN
  have hA := fun (v : Nat) (V : Vs) (u : Nat) => FApply_T v V u gameI (fd0 7 [0] 2 2) rec22 0 img_game (wd0_ok 7) (by decide) (by decide) (by decide) (by decide) ⟨by decide, by simp [rec22], by decide, by simp [rec22]⟩
  simp
  refine callT_eq [] hG ?_
  simp
  refine callT_exa [(2000, 2000), (2001, 2001), (2002, 2002), (2003, 2003), (2004, 2004), (2005, 2005), (2006, 2006)] hN ?_
  simp [i64c, i64v, u32v]
  intro v V u v23 v3
  have hA0 := hA v V u
  have e1 : ((fd0 7 [0] 2 2).apply gameI rec22).1 = fdA := rfl
  have e2 : ((fd0 7 [0] 2 2).apply gameI rec22).2 = 0 := by rw [apply_er]; exact fdA_facts.1
  have e3 := apply_tn gameI (fd0 7 [0] 2 2) rec22 fdA_facts.1
  have hok : fdA.W.Ok 1000002 := by
    have h := play_ok img_game (wd0_ok 7) rec22.l (by simp [rec22])
    have h0 : ((fd0 7 [0] 2 2).apply gameI rec22).1.W = ((wd0 7).play gameI rec22.l).1 := by
      unfold Fd.apply
      rw [if_neg (by rw [fdA_facts.1]; decide)]
      rfl
    rw [e1] at h0
    rw [h0]
    exact h
  have e4 : fdA.pd = 2 := by
    rw [← e1]
    unfold Fd.apply
    rw [if_neg (by rw [fdA_facts.1]; decide)]
    rfl
  rw [e1, e2] at hA0
  rw [e1] at e3
  have e5 : fdA.W.turn = 1 := e3.1
  have e6 : fdA.r.s = 1 ∧ fdA.r.e = 0 := by rw [e3.2]; exact fdA_facts.2
  clear e3
  have hB := fun (u : Nat) => FApply_T v V u gameI fdA rec22 1000002 img_game hok (by decide) (by rw [e6.1]; decide) (by rw [e6.2]; decide) (by rw [e6.2]; decide) ⟨by decide, by simp [rec22], by decide, by simp [rec22]⟩
  have hc : rec22.chk fdA.W.turn fdA.r = 12 := by rw [e5]; simp [Rec.chk, rec22]
  have e7 : (fdA.apply gameI rec22).2 = 12 := by rw [apply_er, hc]
  have e8 : (fdA.apply gameI rec22).1 = fdA := apply_no _ _ _ (by rw [hc]; decide)
  rw [e7, e8] at hB
  have hTu := fun (u : Nat) => WTurn_T V u gameI fdA.W
  have hRo := fun (u : Nat) => FRos_T v V u gameI fdA
  have hPa := fun (u : Nat) => FPace_T v V u gameI fdA
  have hRL := RLen_T fdA.r (by rw [e6.1]; decide)
  have e9 : fdA.r.len = 1 := by unfold Ros.len; rw [e6.1]; decide
  rw [e5] at hTu
  rw [e4] at hPa
  rw [e9] at hRL
  generalize fdA = F at *
  have hrec : rec22.cells = [.v (.int .i64 0), .isl [] 0, .v (.int .i64 0), .v (.int .i64 0), .isl [.v (.int .i64 0), .isl [] 0] 1] := rfl
  simp only [hrec, i64c, u32v, Ros.cells] at hA0 hB hTu hRo hPa hRL
  refine callT.pre (fn_of hA0) (CLx.frzH 23 rfl (CLx.weak 1 (.agg rec22.cells) rfl (fun E y h => rec22_w E y (by simpa using h)) (CLx.done ?_)))
  simp [hrec]
  refine callT_ex [(2000, 2000), (2001, 2001), (2002, 2002), (2003, 2003), (2004, 2004), (2005, 2005), (2006, 2006)] hA0 ?_
  simp [i64v, i64c, u32v]
  intro u1
  refine callT.pre (fn_of (hB u1)) (CLx.weak 1 (.agg rec22.cells) rfl rec22_w (CLx.done ?_))
  simp [hrec]
  refine callT_ex [(2000, 2000), (2001, 2001), (2002, 2002), (2003, 2003), (2004, 2004), (2005, 2005), (2006, 2006)] (hB u1) ?_
  simp [i64v, i64c, u32v]
  intro u2
  refine callT_eq [(2001, 2001), (2002, 2002), (2003, 2003), (2004, 2004), (2005, 2005), (2006, 2006)] (hTu u2) ?_
  simp [i64v, i64c, u32v]
  refine callT_eq [(2000, 2000), (2001, 2001), (2002, 2002), (2003, 2003), (2004, 2004), (2005, 2005), (2006, 2006)] (hRo u2) ?_
  simp [i64v, i64c, u32v]
  refine callT_eq [] hRL ?_
  simp [i64v, i64c, u32v]
  refine callT_eq [(2000, 2000), (2001, 2001), (2002, 2002), (2003, 2003), (2004, 2004), (2005, 2005), (2006, 2006)] (hPa u2) ?_
  simp [i64v, i64c, u32v]
end Go.Proofs.YtgkhedmjkahclaaGreatDoor.TL
