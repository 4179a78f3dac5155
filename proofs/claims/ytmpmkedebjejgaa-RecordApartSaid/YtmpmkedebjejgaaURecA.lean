/- The law RecordApart, as the code runs. -/
import Derived.Test.YtmpmkedebjejgaaURecN
import Derived.Test.YtmpmkedebjejgaaURecO
import Derived.Test.YtmpmkedebjejgaaUAwk20
namespace Go.Proofs.Ytmpmkedebjejgaa.TL
open Go
set_option linter.unusedVariables false
set_option linter.unusedSimpArgs false

@[simp] theorem rowB_CloL : ∀ L : List (List Ord), CloL (rowB L)
  | [] => trivial
  | o :: l => ⟨rowC_CloL o, rowB_CloL l⟩
theorem Fit0_T (t : Int) (was : Ros) (L : List (List Ord)) (hs : was.s < 2 ^ 32) (he : 0 ≤ was.e) (he2 : was.e ≤ 1000000) :
    callT Try.prog 15 [i64c t, .agg was.cells, .v (.slice none 0 0), .isl (rowB L) L.length] ⟨[], []⟩ (fun x h => x = .agg (fit t was [] L).cells ∧ h = []) := by
  have h := Fit_T t was [] L hs he he2 (Nat.zero_le _)
  refine callT.pre (fn_of h) (CLx.nz (CLx.done ?_))
  simp [Ros.cells, u32v, i64c] at h ⊢
  exact h
def fitX (t pt pd : Int) (was : Ros) (cs : List Chg) (L : List (List Ord)) : Rec := ⟨t, (fit t was cs L).c, pt, pd, (fit t was cs L).l⟩
theorem fitX_ros {t pt pd : Int} {was : Ros} {cs : List Chg} {L : List (List Ord)} (hs : was.s < 2 ^ 32) : (fitX t pt pd was cs L).ros was = ((fitL was (few cs)).2, 0) := fit_ros (t := t) (L := L) hs
theorem fitX_chk {t pt pd : Int} {was : Ros} {cs : List Chg} {L : List (List Ord)} (hs : was.s < 2 ^ 32) (hp : pchk pt pd = 0) : (fitX t pt pd was cs L).chk t was = 0 := by
  unfold Rec.chk
  rw [fitX_ros hs, if_neg (by simp [fitX]), if_neg (by simp [fitX, hp]), if_neg (by simp), if_neg]
  · exact fitP_wchk L
  · exact fun hh => hh (pls_fitP _ _)
theorem fitX_wf {t pt pd : Int} {was : Ros} {cs : List Chg} {L : List (List Ord)} (hs : was.s < 2 ^ 32) (ht : 0 ≤ t ∧ t ≤ 1099511627776) (h1 : 0 ≤ pt ∧ pt ≤ 64) (h2 : 0 ≤ pd ∧ pd ≤ 6) : (fitX t pt pd was cs L).wf := by
  have h := fit_wf (cs := cs) (L := L) hs ht
  exact ⟨ht, h.c, h.cl, h1, h2, h.l, h.ll⟩

set_option maxHeartbeats 8000000 in
set_option maxRecDepth 100000 in
theorem RecordApart_T (tn : Int) (ps : List Int) (L M : List (List Ord)) (a b : Int) : callT Try.prog 5 [i64c tn, .isl (ps.map i64c) ps.length, .isl (rowB L) L.length, .isl (rowB M) M.length, i64c a, i64c b] ⟨[], []⟩ (fun x h => x = .v (.bool true)) := by
  refine callT_of_body [0, 1, 2, 3, 4, 5, 12, 13, 14, 15, 16, 17, 19, 24, 47] [] Try.func5 rfl (by decide) (by kernel_rfl) rfl ?_
  simp [i64c]
  refine callT_eq [] Awk20_T ?_
  have hT := i64_and65535 tn
  have hT0 : 0 ≤ tn % 65536 ∧ tn % 65536 < 65536 := by omega
  generalize tn % 65536 = T at hT hT0
  have hsuf : ∀ (m : List Int) (n : Nat), m.length = n → n ≤ 40 → callT Try.prog 14 [.isl (m.map i64c) n] ⟨[], []⟩ (fun x h => x = .agg (Ros.mk (setOf m) 0).cells ∧ h = []) := fun m n h1 h2 => by
    subst h1
    exact ROf_T m (by omega)
  have ea := i64_and63 a
  have eb := i64_and255 b
  have ea2 : IntKind.i64.wrap (1 + a % 64) = 1 + a % 64 := i64_id (by omega) (by omega)
  have eb2 : (b % 256).tmod 6 = (b % 256) % 6 := Int.tmod_eq_emod_of_nonneg (by omega)
  have eb3 : IntKind.i64.wrap (b % 256 % 6) = b % 256 % 6 := i64_id (by omega) (by omega)
  have eb4 : IntKind.i64.wrap (1 + b % 256 % 6) = 1 + b % 256 % 6 := i64_id (by omega) (by omega)
  have hcases : (40 < ps.length ∧ 40 ≤ ps.length) ∨ (¬ 40 < ps.length) := by omega
  rcases hcases with ⟨hp, hp2⟩ | hp
  · have hp' : (40 : Int) < ps.length := by omega
    have hml : (ps.take 40).length = 40 := by simp; omega
    simp [hT, hp', hp, hp2]
    rw [← List.map_take]
    generalize ps.take 40 = m at hml ⊢
    refine ⟨by omega, ?_⟩
    have hof := hsuf m 40 hml (by omega)
    have hs := setOf_lt m
    generalize setOf m = S at hs hof
    refine callT_eq [] hof ?_
    simp [Ros.cells, u32v, i64c]
    intro v13
    have hw := fit_wf (t := T) (was := ⟨S, 0⟩) (cs := []) (L := L) hs (by omega)
    have hw2 := fit_wf (t := T) (was := ⟨S, 0⟩) (cs := []) (L := M) hs (by omega)
    have hf1 := Fit0_T T ⟨S, 0⟩ L hs (by simp) (by simp)
    have hf2 := Fit0_T T ⟨S, 0⟩ M hs (by simp) (by simp)
    have hz := fitX_wf (t := T) (pt := 1 + a % 64) (pd := 1 + b % 256 % 6) (was := ⟨S, 0⟩) (cs := []) (L := L) hs (by omega) (by omega) (by omega)
    have hu := fitX_wf (t := T + 1) (pt := 0) (pd := 0) (was := ⟨S, 0⟩) (cs := []) (L := L) hs (by omega) (by omega) (by omega)
    have hzc := fitX_chk (t := T) (pt := 1 + a % 64) (pd := 1 + b % 256 % 6) (was := ⟨S, 0⟩) (cs := []) (L := L) hs (by unfold pchk; rw [if_neg (by omega)])
    have huc : (fitX (T + 1) 0 0 ⟨S, 0⟩ [] L).chk (T + 1) ⟨S, 0⟩ = 0 := fit_chk (t := T + 1) (was := ⟨S, 0⟩) (cs := []) (L := L) hs
    have huc2 : (fitX (T + 1) 0 0 ⟨S, 0⟩ [] L).chk T ⟨S, 0⟩ = 12 := by unfold Rec.chk; rw [if_pos (by simp [fitX]; omega)]
    have hzx : (fitX T (1 + a % 64) (1 + b % 256 % 6) ⟨S, 0⟩ [] L) = ⟨(fit T ⟨S, 0⟩ [] L).t, (fit T ⟨S, 0⟩ [] L).c, 1 + a % 64, 1 + b % 256 % 6, (fit T ⟨S, 0⟩ [] L).l⟩ := rfl
    have hux : (fitX (T + 1) 0 0 ⟨S, 0⟩ [] L) = ⟨T + 1, (fit T ⟨S, 0⟩ [] L).c, 0, 0, (fit T ⟨S, 0⟩ [] L).l⟩ := rfl
    have hxt : (fit T ⟨S, 0⟩ [] L).t = T := rfl
    have hxp : (fit T ⟨S, 0⟩ [] L).pt = 0 := rfl
    have hxd : (fit T ⟨S, 0⟩ [] L).pd = 0 := rfl
    rw [hzx] at hz hzc
    rw [hux] at hu huc huc2
    clear hzx hux
    generalize fit T ⟨S, 0⟩ [] L = X at *
    generalize fit T ⟨S, 0⟩ [] M = Y at *
    obtain ⟨t, c, pt, pd, l⟩ := X
    simp only at hxt hxp hxd hz hzc hu huc huc2
    subst hxt hxp hxd
    refine drawT_cut (α := Nat × Nat) (fun _ => True) (fun x => ⟨[(0, i64c t), (4, i64c a), (5, i64c b), (13, .at 13 v13 0), (14, .at 14 x.1 0), (15, .at 15 x.2 0)], [(13, v13, ⟨0, (Ros.mk S 0).cells⟩), (14, x.1, ⟨0, (Rec.mk t c 0 0 l).cells⟩), (15, x.2, ⟨0, Y.cells⟩)]⟩) ?_ ?_
    · refine draw_h (pl [0, 1, 2, 4, 5, 6] (.alt3 3 (pl [] (.alt3 7 (pl [] (.alt 8 (pl [9] .nil) 9 (pl [8] .nil))) 8 (pl [] (.alt 7 (pl [9] .nil) 9 (pl [7] .nil))) 9 (pl [] (.alt 7 (pl [8] .nil) 8 (pl [7] .nil))))) 8 (pl [] (.alt 3 (pl [] (.alt 7 (pl [9] .nil) 9 (pl [7] .nil))) 9 (pl [3, 7] .nil))) 9 (pl [] (.alt 3 (pl [] (.alt 7 (pl [8] .nil) 8 (pl [7] .nil))) 8 (pl [3, 7] .nil))))) 10 [(3, [0, 1, 2]), (7, [0, 1, 2, 3, 4, 5, 6]), (8, []), (9, [])] (by kernel_rfl) (by kernel_rfl) (by kernel_rfl) (by kernel_rfl) ?_
      simp [Rec.cells, Ros.cells, u32v, i64c]
      refine ⟨?_, ?_, ?_⟩
      · refine callT_eq [] hf1 ?_
        simp [Rec.cells, Ros.cells, u32v, i64c]
        refine ⟨?_, ?_, ?_⟩
        · refine callT_eq [] hf2 ?_
          simp [Rec.cells, Ros.cells, u32v, i64c]
          refine ⟨?_, ?_⟩
          · intro v14
            intro v15
            exact SLx.at (v14, v15) trivial (by simp [i64c]) (by simp [Rec.cells, Ros.cells, u32v, i64c])
          · intro v15
            intro v14
            exact SLx.at (v14, v15) trivial (by simp [i64c]) (by simp [Rec.cells, Ros.cells, u32v, i64c])
        · intro v14
          refine ⟨?_, ?_⟩
          · refine callT_eq [] hf2 ?_
            simp [Rec.cells, Ros.cells, u32v, i64c]
            intro v15
            exact SLx.at (v14, v15) trivial (by simp [i64c]) (by simp [Rec.cells, Ros.cells, u32v, i64c])
          · intro v15
            refine callT_eq [] hf2 ?_
            simp [Rec.cells, Ros.cells, u32v, i64c]
            exact SLx.at (v14, v15) trivial (by simp [i64c]) (by simp [Rec.cells, Ros.cells, u32v, i64c])
        · intro v15
          refine ⟨?_, ?_⟩
          · refine callT_eq [] hf2 ?_
            simp [Rec.cells, Ros.cells, u32v, i64c]
            intro v14
            exact SLx.at (v14, v15) trivial (by simp [i64c]) (by simp [Rec.cells, Ros.cells, u32v, i64c])
          · intro v14
            refine callT_eq [] hf2 ?_
            simp [Rec.cells, Ros.cells, u32v, i64c]
            exact SLx.at (v14, v15) trivial (by simp [i64c]) (by simp [Rec.cells, Ros.cells, u32v, i64c])
      · intro v14
        refine ⟨?_, ?_⟩
        · refine callT_eq [] hf1 ?_
          simp [Rec.cells, Ros.cells, u32v, i64c]
          refine ⟨?_, ?_⟩
          · refine callT_eq [] hf2 ?_
            simp [Rec.cells, Ros.cells, u32v, i64c]
            intro v15
            exact SLx.at (v14, v15) trivial (by simp [i64c]) (by simp [Rec.cells, Ros.cells, u32v, i64c])
          · intro v15
            refine callT_eq [] hf2 ?_
            simp [Rec.cells, Ros.cells, u32v, i64c]
            exact SLx.at (v14, v15) trivial (by simp [i64c]) (by simp [Rec.cells, Ros.cells, u32v, i64c])
        · intro v15
          refine callT_eq [] hf1 ?_
          simp [Rec.cells, Ros.cells, u32v, i64c]
          refine callT_eq [] hf2 ?_
          simp [Rec.cells, Ros.cells, u32v, i64c]
          exact SLx.at (v14, v15) trivial (by simp [i64c]) (by simp [Rec.cells, Ros.cells, u32v, i64c])
      · intro v15
        refine ⟨?_, ?_⟩
        · refine callT_eq [] hf1 ?_
          simp [Rec.cells, Ros.cells, u32v, i64c]
          refine ⟨?_, ?_⟩
          · refine callT_eq [] hf2 ?_
            simp [Rec.cells, Ros.cells, u32v, i64c]
            intro v14
            exact SLx.at (v14, v15) trivial (by simp [i64c]) (by simp [Rec.cells, Ros.cells, u32v, i64c])
          · intro v14
            refine callT_eq [] hf2 ?_
            simp [Rec.cells, Ros.cells, u32v, i64c]
            exact SLx.at (v14, v15) trivial (by simp [i64c]) (by simp [Rec.cells, Ros.cells, u32v, i64c])
        · intro v14
          refine callT_eq [] hf1 ?_
          simp [Rec.cells, Ros.cells, u32v, i64c]
          refine callT_eq [] hf2 ?_
          simp [Rec.cells, Ros.cells, u32v, i64c]
          exact SLx.at (v14, v15) trivial (by simp [i64c]) (by simp [Rec.cells, Ros.cells, u32v, i64c])
    rintro ⟨v14, v15⟩ -
    have hsame := RcSame_T ⟨t, c, 0, 0, l⟩ Y (by have := hw2.cl; omega) (by have := hw2.ll; omega) (fun q hq => by have := (hw2.c q hq).l; omega) (fun q hq => by have := (hw2.l q hq).l; omega)
    have htold := RcTold_T Y (by have := hw2.cl; omega) (by have := hw2.ll; omega) (fun q hq => by have := (hw2.l q hq).l; omega)
    have htx := RcText_T ⟨t, c, 0, 0, l⟩ hw.rd.ok
    have hty := RcText_T Y hw2.rd.ok
    have htz := RcText_T ⟨t, c, 1 + a % 64, 1 + b % 256 % 6, l⟩ hz.rd.ok
    have htw := RcText_T ⟨t + 1, c, 0, 0, l⟩ hu.rd.ok
    have hne1 : ¬ (Rec.mk t c (1 + a % 64) (1 + b % 256 % 6) l).bytes = (Rec.mk t c 0 0 l).bytes := fun h => by
      have := congrArg Rec.pt (bytes_inj hz hw h)
      simp only at this
      omega
    have hne2 : ¬ (Rec.mk (t + 1) c 0 0 l).bytes = (Rec.mk t c 0 0 l).bytes := fun h => by
      have := congrArg Rec.t (bytes_inj hu hw h)
      simp only at this
      omega
    have hiff : (Rec.mk t c 0 0 l).bytes = Y.bytes ↔ (Rec.mk t c 0 0 l) = Y := ⟨fun h => bytes_inj hw hw2 h, fun h => by rw [h]⟩
    have kc : c.length ≤ 1000000 := by have := hw.cl; simp only at this; omega
    have kl : l.length ≤ 1000000 := by have := hw.ll; simp only at this; omega
    have kv : ∀ q ∈ c, q.v.length ≤ 1000000 := fun q hq => by have := (hw.c q hq).l; omega
    have kb : ∀ q ∈ l, q.b.length ≤ 1000000 := fun q hq => by have := (hw.l q hq).l; omega
    have hc1 := RcChk_T ⟨t, c, 1 + a % 64, 1 + b % 256 % 6, l⟩ t ⟨S, 0⟩ hs kv kc (by simp) (by simp) kl kb
    rw [hzc] at hc1
    have hc2 := RcChk_T ⟨t + 1, c, 0, 0, l⟩ t ⟨S, 0⟩ hs kv kc (by simp) (by simp) kl kb
    rw [huc2] at hc2
    have hc3 := RcChk_T ⟨t + 1, c, 0, 0, l⟩ (t + 1) ⟨S, 0⟩ hs kv kc (by simp) (by simp) kl kb
    rw [huc] at hc3
    have et : IntKind.i64.wrap (t + 1) = t + 1 := i64_id (by omega) (by omega)
    simp [Rec.cells, Ros.cells, u32v, i64c]
    refine draw_g [0, 2, 5, 6, 1, 3, 4, 7, 8, 9] 10 [(1, [0]), (3, [0, 1, 2]), (7, [0, 1, 2, 3, 6]), (8, [0, 1, 2, 3, 5, 6, 7])] (by kernel_rfl) (by kernel_rfl) (by kernel_rfl) ?_
    simp [Rec.cells, Ros.cells, u32v, i64c]
    refine callT_eq [] htx ?_
    simp [Rec.cells, Ros.cells, u32v, i64c]
    refine callT_eq [] hty ?_
    simp [Rec.cells, Ros.cells, u32v, i64c]
    refine callT_eq [] htold ?_
    simp [Rec.cells, Ros.cells, u32v, i64c]
    refine callT_eq [] hsame ?_
    by_cases heq : Rec.mk t c 0 0 l = Y
    · subst heq
      simp [Rec.cells, Ros.cells, u32v, i64c, ea, eb, ea2, eb2, eb3, eb4, et]
      refine fun v16 v17 => ?_
      refine draw_g [0, 2, 1, 3, 4, 5, 6, 8, 7, 9, 10, 11, 12, 13, 14, 15, 16, 17, 18, 19, 20, 21, 22, 23, 24, 25, 26, 27, 28, 29, 30] 31 [(1, [0]), (3, [0, 1, 2]), (7, [0, 1, 2, 3, 4, 5, 6]), (9, [0, 1, 2, 3, 4, 5, 6, 7, 8]), (16, [0, 1, 2, 3, 4, 5, 6, 7, 8, 9, 10, 11, 12, 13, 14, 15]), (23, [0, 1, 2, 3, 4, 5, 6, 7, 8, 9, 10, 11, 12, 13, 14, 15, 16, 17, 18, 19, 20, 21, 22])] (by kernel_rfl) (by kernel_rfl) (by kernel_rfl) ?_
      simp [Rec.cells, Ros.cells, u32v, i64c]
      refine callT_eq [] htz ?_
      simp [Rec.cells, Ros.cells, u32v, i64c]
      refine callT_eq [] htx ?_
      simp [Rec.cells, Ros.cells, u32v, i64c, hne1]
      refine callT_eq [] htw ?_
      simp [Rec.cells, Ros.cells, u32v, i64c]
      refine callT_eq [] htx ?_
      simp [Rec.cells, Ros.cells, u32v, i64c, hne2]
      refine callT_eq [] hc1 ?_
      simp [Rec.cells, Ros.cells, u32v, i64c]
      refine callT_eq [] hc2 ?_
      simp [Rec.cells, Ros.cells, u32v, i64c, et]
      refine callT_eq [] hc3 ?_
      simp [Rec.cells, Ros.cells, u32v, i64c, et]
    · have hbn : ¬ (Rec.mk t c 0 0 l).bytes = Y.bytes := fun h => heq (hiff.1 h)
      simp [Rec.cells, Ros.cells, u32v, i64c, ea, eb, ea2, eb2, eb3, eb4, et, heq, hbn]
      refine fun v16 v17 => ?_
      refine draw_g [0, 2, 1, 3, 4, 5, 6, 8, 7, 9, 10, 11, 12, 13, 14, 15, 16, 17, 18, 19, 20, 21, 22, 23, 24, 25, 26, 27, 28, 29, 30] 31 [(1, [0]), (3, [0, 1, 2]), (7, [0, 1, 2, 3, 4, 5, 6]), (9, [0, 1, 2, 3, 4, 5, 6, 7, 8]), (16, [0, 1, 2, 3, 4, 5, 6, 7, 8, 9, 10, 11, 12, 13, 14, 15]), (23, [0, 1, 2, 3, 4, 5, 6, 7, 8, 9, 10, 11, 12, 13, 14, 15, 16, 17, 18, 19, 20, 21, 22])] (by kernel_rfl) (by kernel_rfl) (by kernel_rfl) ?_
      simp [Rec.cells, Ros.cells, u32v, i64c]
      refine callT_eq [] htz ?_
      simp [Rec.cells, Ros.cells, u32v, i64c]
      refine callT_eq [] htx ?_
      simp [Rec.cells, Ros.cells, u32v, i64c, hne1]
      refine callT_eq [] htw ?_
      simp [Rec.cells, Ros.cells, u32v, i64c]
      refine callT_eq [] htx ?_
      simp [Rec.cells, Ros.cells, u32v, i64c, hne2]
      refine callT_eq [] hc1 ?_
      simp [Rec.cells, Ros.cells, u32v, i64c]
      refine callT_eq [] hc2 ?_
      simp [Rec.cells, Ros.cells, u32v, i64c, et]
      refine callT_eq [] hc3 ?_
      simp [Rec.cells, Ros.cells, u32v, i64c, et]
  · have hp' : ¬ (40 : Int) < ps.length := by omega
    simp [hT, hp', hp]
    have hof := hsuf ps ps.length rfl (by omega)
    generalize ps.length = n at hof ⊢
    generalize hm : ps = m at hof ⊢
    have hs := setOf_lt m
    generalize setOf m = S at hs hof
    refine callT_eq [] hof ?_
    simp [Ros.cells, u32v, i64c]
    intro v13
    have hw := fit_wf (t := T) (was := ⟨S, 0⟩) (cs := []) (L := L) hs (by omega)
    have hw2 := fit_wf (t := T) (was := ⟨S, 0⟩) (cs := []) (L := M) hs (by omega)
    have hf1 := Fit0_T T ⟨S, 0⟩ L hs (by simp) (by simp)
    have hf2 := Fit0_T T ⟨S, 0⟩ M hs (by simp) (by simp)
    have hz := fitX_wf (t := T) (pt := 1 + a % 64) (pd := 1 + b % 256 % 6) (was := ⟨S, 0⟩) (cs := []) (L := L) hs (by omega) (by omega) (by omega)
    have hu := fitX_wf (t := T + 1) (pt := 0) (pd := 0) (was := ⟨S, 0⟩) (cs := []) (L := L) hs (by omega) (by omega) (by omega)
    have hzc := fitX_chk (t := T) (pt := 1 + a % 64) (pd := 1 + b % 256 % 6) (was := ⟨S, 0⟩) (cs := []) (L := L) hs (by unfold pchk; rw [if_neg (by omega)])
    have huc : (fitX (T + 1) 0 0 ⟨S, 0⟩ [] L).chk (T + 1) ⟨S, 0⟩ = 0 := fit_chk (t := T + 1) (was := ⟨S, 0⟩) (cs := []) (L := L) hs
    have huc2 : (fitX (T + 1) 0 0 ⟨S, 0⟩ [] L).chk T ⟨S, 0⟩ = 12 := by unfold Rec.chk; rw [if_pos (by simp [fitX]; omega)]
    have hzx : (fitX T (1 + a % 64) (1 + b % 256 % 6) ⟨S, 0⟩ [] L) = ⟨(fit T ⟨S, 0⟩ [] L).t, (fit T ⟨S, 0⟩ [] L).c, 1 + a % 64, 1 + b % 256 % 6, (fit T ⟨S, 0⟩ [] L).l⟩ := rfl
    have hux : (fitX (T + 1) 0 0 ⟨S, 0⟩ [] L) = ⟨T + 1, (fit T ⟨S, 0⟩ [] L).c, 0, 0, (fit T ⟨S, 0⟩ [] L).l⟩ := rfl
    have hxt : (fit T ⟨S, 0⟩ [] L).t = T := rfl
    have hxp : (fit T ⟨S, 0⟩ [] L).pt = 0 := rfl
    have hxd : (fit T ⟨S, 0⟩ [] L).pd = 0 := rfl
    rw [hzx] at hz hzc
    rw [hux] at hu huc huc2
    clear hzx hux
    generalize fit T ⟨S, 0⟩ [] L = X at *
    generalize fit T ⟨S, 0⟩ [] M = Y at *
    obtain ⟨t, c, pt, pd, l⟩ := X
    simp only at hxt hxp hxd hz hzc hu huc huc2
    subst hxt hxp hxd
    refine drawT_cut (α := Nat × Nat) (fun _ => True) (fun x => ⟨[(0, i64c t), (4, i64c a), (5, i64c b), (13, .at 13 v13 0), (14, .at 14 x.1 0), (15, .at 15 x.2 0)], [(13, v13, ⟨0, (Ros.mk S 0).cells⟩), (14, x.1, ⟨0, (Rec.mk t c 0 0 l).cells⟩), (15, x.2, ⟨0, Y.cells⟩)]⟩) ?_ ?_
    · refine draw_h (pl [0, 1, 2, 4, 5, 6] (.alt3 3 (pl [] (.alt3 7 (pl [] (.alt 8 (pl [9] .nil) 9 (pl [8] .nil))) 8 (pl [] (.alt 7 (pl [9] .nil) 9 (pl [7] .nil))) 9 (pl [] (.alt 7 (pl [8] .nil) 8 (pl [7] .nil))))) 8 (pl [] (.alt 3 (pl [] (.alt 7 (pl [9] .nil) 9 (pl [7] .nil))) 9 (pl [3, 7] .nil))) 9 (pl [] (.alt 3 (pl [] (.alt 7 (pl [8] .nil) 8 (pl [7] .nil))) 8 (pl [3, 7] .nil))))) 10 [(3, [0, 1, 2]), (7, [0, 1, 2, 3, 4, 5, 6]), (8, []), (9, [])] (by kernel_rfl) (by kernel_rfl) (by kernel_rfl) (by kernel_rfl) ?_
      simp [Rec.cells, Ros.cells, u32v, i64c]
      refine ⟨?_, ?_, ?_⟩
      · refine callT_eq [] hf1 ?_
        simp [Rec.cells, Ros.cells, u32v, i64c]
        refine ⟨?_, ?_, ?_⟩
        · refine callT_eq [] hf2 ?_
          simp [Rec.cells, Ros.cells, u32v, i64c]
          refine ⟨?_, ?_⟩
          · intro v14
            intro v15
            exact SLx.at (v14, v15) trivial (by simp [i64c]) (by simp [Rec.cells, Ros.cells, u32v, i64c])
          · intro v15
            intro v14
            exact SLx.at (v14, v15) trivial (by simp [i64c]) (by simp [Rec.cells, Ros.cells, u32v, i64c])
        · intro v14
          refine ⟨?_, ?_⟩
          · refine callT_eq [] hf2 ?_
            simp [Rec.cells, Ros.cells, u32v, i64c]
            intro v15
            exact SLx.at (v14, v15) trivial (by simp [i64c]) (by simp [Rec.cells, Ros.cells, u32v, i64c])
          · intro v15
            refine callT_eq [] hf2 ?_
            simp [Rec.cells, Ros.cells, u32v, i64c]
            exact SLx.at (v14, v15) trivial (by simp [i64c]) (by simp [Rec.cells, Ros.cells, u32v, i64c])
        · intro v15
          refine ⟨?_, ?_⟩
          · refine callT_eq [] hf2 ?_
            simp [Rec.cells, Ros.cells, u32v, i64c]
            intro v14
            exact SLx.at (v14, v15) trivial (by simp [i64c]) (by simp [Rec.cells, Ros.cells, u32v, i64c])
          · intro v14
            refine callT_eq [] hf2 ?_
            simp [Rec.cells, Ros.cells, u32v, i64c]
            exact SLx.at (v14, v15) trivial (by simp [i64c]) (by simp [Rec.cells, Ros.cells, u32v, i64c])
      · intro v14
        refine ⟨?_, ?_⟩
        · refine callT_eq [] hf1 ?_
          simp [Rec.cells, Ros.cells, u32v, i64c]
          refine ⟨?_, ?_⟩
          · refine callT_eq [] hf2 ?_
            simp [Rec.cells, Ros.cells, u32v, i64c]
            intro v15
            exact SLx.at (v14, v15) trivial (by simp [i64c]) (by simp [Rec.cells, Ros.cells, u32v, i64c])
          · intro v15
            refine callT_eq [] hf2 ?_
            simp [Rec.cells, Ros.cells, u32v, i64c]
            exact SLx.at (v14, v15) trivial (by simp [i64c]) (by simp [Rec.cells, Ros.cells, u32v, i64c])
        · intro v15
          refine callT_eq [] hf1 ?_
          simp [Rec.cells, Ros.cells, u32v, i64c]
          refine callT_eq [] hf2 ?_
          simp [Rec.cells, Ros.cells, u32v, i64c]
          exact SLx.at (v14, v15) trivial (by simp [i64c]) (by simp [Rec.cells, Ros.cells, u32v, i64c])
      · intro v15
        refine ⟨?_, ?_⟩
        · refine callT_eq [] hf1 ?_
          simp [Rec.cells, Ros.cells, u32v, i64c]
          refine ⟨?_, ?_⟩
          · refine callT_eq [] hf2 ?_
            simp [Rec.cells, Ros.cells, u32v, i64c]
            intro v14
            exact SLx.at (v14, v15) trivial (by simp [i64c]) (by simp [Rec.cells, Ros.cells, u32v, i64c])
          · intro v14
            refine callT_eq [] hf2 ?_
            simp [Rec.cells, Ros.cells, u32v, i64c]
            exact SLx.at (v14, v15) trivial (by simp [i64c]) (by simp [Rec.cells, Ros.cells, u32v, i64c])
        · intro v14
          refine callT_eq [] hf1 ?_
          simp [Rec.cells, Ros.cells, u32v, i64c]
          refine callT_eq [] hf2 ?_
          simp [Rec.cells, Ros.cells, u32v, i64c]
          exact SLx.at (v14, v15) trivial (by simp [i64c]) (by simp [Rec.cells, Ros.cells, u32v, i64c])
    rintro ⟨v14, v15⟩ -
    have hsame := RcSame_T ⟨t, c, 0, 0, l⟩ Y (by have := hw2.cl; omega) (by have := hw2.ll; omega) (fun q hq => by have := (hw2.c q hq).l; omega) (fun q hq => by have := (hw2.l q hq).l; omega)
    have htold := RcTold_T Y (by have := hw2.cl; omega) (by have := hw2.ll; omega) (fun q hq => by have := (hw2.l q hq).l; omega)
    have htx := RcText_T ⟨t, c, 0, 0, l⟩ hw.rd.ok
    have hty := RcText_T Y hw2.rd.ok
    have htz := RcText_T ⟨t, c, 1 + a % 64, 1 + b % 256 % 6, l⟩ hz.rd.ok
    have htw := RcText_T ⟨t + 1, c, 0, 0, l⟩ hu.rd.ok
    have hne1 : ¬ (Rec.mk t c (1 + a % 64) (1 + b % 256 % 6) l).bytes = (Rec.mk t c 0 0 l).bytes := fun h => by
      have := congrArg Rec.pt (bytes_inj hz hw h)
      simp only at this
      omega
    have hne2 : ¬ (Rec.mk (t + 1) c 0 0 l).bytes = (Rec.mk t c 0 0 l).bytes := fun h => by
      have := congrArg Rec.t (bytes_inj hu hw h)
      simp only at this
      omega
    have hiff : (Rec.mk t c 0 0 l).bytes = Y.bytes ↔ (Rec.mk t c 0 0 l) = Y := ⟨fun h => bytes_inj hw hw2 h, fun h => by rw [h]⟩
    have kc : c.length ≤ 1000000 := by have := hw.cl; simp only at this; omega
    have kl : l.length ≤ 1000000 := by have := hw.ll; simp only at this; omega
    have kv : ∀ q ∈ c, q.v.length ≤ 1000000 := fun q hq => by have := (hw.c q hq).l; omega
    have kb : ∀ q ∈ l, q.b.length ≤ 1000000 := fun q hq => by have := (hw.l q hq).l; omega
    have hc1 := RcChk_T ⟨t, c, 1 + a % 64, 1 + b % 256 % 6, l⟩ t ⟨S, 0⟩ hs kv kc (by simp) (by simp) kl kb
    rw [hzc] at hc1
    have hc2 := RcChk_T ⟨t + 1, c, 0, 0, l⟩ t ⟨S, 0⟩ hs kv kc (by simp) (by simp) kl kb
    rw [huc2] at hc2
    have hc3 := RcChk_T ⟨t + 1, c, 0, 0, l⟩ (t + 1) ⟨S, 0⟩ hs kv kc (by simp) (by simp) kl kb
    rw [huc] at hc3
    have et : IntKind.i64.wrap (t + 1) = t + 1 := i64_id (by omega) (by omega)
    simp [Rec.cells, Ros.cells, u32v, i64c]
    refine draw_g [0, 2, 5, 6, 1, 3, 4, 7, 8, 9] 10 [(1, [0]), (3, [0, 1, 2]), (7, [0, 1, 2, 3, 6]), (8, [0, 1, 2, 3, 5, 6, 7])] (by kernel_rfl) (by kernel_rfl) (by kernel_rfl) ?_
    simp [Rec.cells, Ros.cells, u32v, i64c]
    refine callT_eq [] htx ?_
    simp [Rec.cells, Ros.cells, u32v, i64c]
    refine callT_eq [] hty ?_
    simp [Rec.cells, Ros.cells, u32v, i64c]
    refine callT_eq [] htold ?_
    simp [Rec.cells, Ros.cells, u32v, i64c]
    refine callT_eq [] hsame ?_
    by_cases heq : Rec.mk t c 0 0 l = Y
    · subst heq
      simp [Rec.cells, Ros.cells, u32v, i64c, ea, eb, ea2, eb2, eb3, eb4, et]
      refine fun v16 v17 => ?_
      refine draw_g [0, 2, 1, 3, 4, 5, 6, 8, 7, 9, 10, 11, 12, 13, 14, 15, 16, 17, 18, 19, 20, 21, 22, 23, 24, 25, 26, 27, 28, 29, 30] 31 [(1, [0]), (3, [0, 1, 2]), (7, [0, 1, 2, 3, 4, 5, 6]), (9, [0, 1, 2, 3, 4, 5, 6, 7, 8]), (16, [0, 1, 2, 3, 4, 5, 6, 7, 8, 9, 10, 11, 12, 13, 14, 15]), (23, [0, 1, 2, 3, 4, 5, 6, 7, 8, 9, 10, 11, 12, 13, 14, 15, 16, 17, 18, 19, 20, 21, 22])] (by kernel_rfl) (by kernel_rfl) (by kernel_rfl) ?_
      simp [Rec.cells, Ros.cells, u32v, i64c]
      refine callT_eq [] htz ?_
      simp [Rec.cells, Ros.cells, u32v, i64c]
      refine callT_eq [] htx ?_
      simp [Rec.cells, Ros.cells, u32v, i64c, hne1]
      refine callT_eq [] htw ?_
      simp [Rec.cells, Ros.cells, u32v, i64c]
      refine callT_eq [] htx ?_
      simp [Rec.cells, Ros.cells, u32v, i64c, hne2]
      refine callT_eq [] hc1 ?_
      simp [Rec.cells, Ros.cells, u32v, i64c]
      refine callT_eq [] hc2 ?_
      simp [Rec.cells, Ros.cells, u32v, i64c, et]
      refine callT_eq [] hc3 ?_
      simp [Rec.cells, Ros.cells, u32v, i64c, et]
    · have hbn : ¬ (Rec.mk t c 0 0 l).bytes = Y.bytes := fun h => heq (hiff.1 h)
      simp [Rec.cells, Ros.cells, u32v, i64c, ea, eb, ea2, eb2, eb3, eb4, et, heq, hbn]
      refine fun v16 v17 => ?_
      refine draw_g [0, 2, 1, 3, 4, 5, 6, 8, 7, 9, 10, 11, 12, 13, 14, 15, 16, 17, 18, 19, 20, 21, 22, 23, 24, 25, 26, 27, 28, 29, 30] 31 [(1, [0]), (3, [0, 1, 2]), (7, [0, 1, 2, 3, 4, 5, 6]), (9, [0, 1, 2, 3, 4, 5, 6, 7, 8]), (16, [0, 1, 2, 3, 4, 5, 6, 7, 8, 9, 10, 11, 12, 13, 14, 15]), (23, [0, 1, 2, 3, 4, 5, 6, 7, 8, 9, 10, 11, 12, 13, 14, 15, 16, 17, 18, 19, 20, 21, 22])] (by kernel_rfl) (by kernel_rfl) (by kernel_rfl) ?_
      simp [Rec.cells, Ros.cells, u32v, i64c]
      refine callT_eq [] htz ?_
      simp [Rec.cells, Ros.cells, u32v, i64c]
      refine callT_eq [] htx ?_
      simp [Rec.cells, Ros.cells, u32v, i64c, hne1]
      refine callT_eq [] htw ?_
      simp [Rec.cells, Ros.cells, u32v, i64c]
      refine callT_eq [] htx ?_
      simp [Rec.cells, Ros.cells, u32v, i64c, hne2]
      refine callT_eq [] hc1 ?_
      simp [Rec.cells, Ros.cells, u32v, i64c]
      refine callT_eq [] hc2 ?_
      simp [Rec.cells, Ros.cells, u32v, i64c, et]
      refine callT_eq [] hc3 ?_
      simp [Rec.cells, Ros.cells, u32v, i64c, et]
end Go.Proofs.Ytmpmkedebjejgaa.TL
