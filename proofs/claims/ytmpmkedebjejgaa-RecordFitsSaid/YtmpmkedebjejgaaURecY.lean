/- The law RecordFits, as the code runs. -/
import Derived.Test.YtmpmkedebjejgaaURecX
namespace Go.Proofs.Ytmpmkedebjejgaa.TL
open Go
set_option linter.unusedVariables false
set_option linter.unusedSimpArgs false

@[simp] theorem rowB_CloL : ∀ L : List (List Ord), CloL (rowB L)
  | [] => trivial
  | o :: l => ⟨rowC_CloL o, rowB_CloL l⟩
@[simp] theorem rowP_AllC (l : List Ply) : AllC (rowP l) := fun x hx => by
  obtain ⟨a, h1, h2⟩ := List.mem_flatten.1 hx
  obtain ⟨q, _, rfl⟩ := List.mem_map.1 h1
  simp only [Ply.cells, List.mem_cons, List.not_mem_nil, or_false] at h2
  rcases h2 with rfl | rfl <;> rfl
theorem rowP_take : ∀ (n : Nat) (l : List Ply), (rowP l).take (n * 2) = rowP (l.take n)
  | 0, l => by simp
  | n + 1, [] => by simp [rowP]
  | n + 1, c :: l => by
    rw [show (n + 1) * 2 = n * 2 + 2 by omega]
    have := rowP_take n l
    simpa [rowP, Ply.cells] using this
theorem rowP_app (a b : List Ply) : rowP (a ++ b) = rowP a ++ rowP b := by simp [rowP]
/-- With another number of plays, it may not be. -/
theorem chk13 {r : Rec} {was : Ros} {X : List Ply} (h : r.chk r.t was = 0) (hl : X.length ≠ r.l.length) : (Rec.mk r.t r.c r.pt r.pd X).chk r.t was = 13 := by
  have hr : (Rec.mk r.t r.c r.pt r.pd X).ros was = r.ros was := rfl
  unfold Rec.chk at h ⊢
  rw [hr]
  simp only [ne_eq, not_true_eq_false, if_false] at h ⊢
  split at h
  · rename_i hh
    exact absurd h hh.2
  · rename_i hh
    rw [if_neg hh]
    split at h
    · rename_i h2
      exact absurd h h2
    · rename_i h2
      rw [if_neg h2]
      split at h
      · cases h
      · rename_i h3
        rw [if_pos]
        intro h4
        have h5 : pls r.l = (r.ros was).1.all 32 := by simpa using h3
        have := congrArg List.length (h4.trans h5.symm)
        simp at this
        exact hl this

set_option maxHeartbeats 8000000 in
set_option maxRecDepth 100000 in
theorem RecordFits_T (tn : Int) (ps : List Int) (cs : List Chg) (L : List (List Ord)) (at0 : Int) (hcl : cs.length ≤ maxLen) : callT Try.prog 6 [i64c tn, .isl (ps.map i64c) ps.length, .isl (rowG cs) cs.length, .isl (rowB L) L.length, i64c at0] ⟨[], []⟩ (fun x h => x = .v (.bool true)) := by
  refine callT_of_body [0, 1, 2, 3, 4, 10, 11, 12, 13, 14, 15, 16, 18, 19, 20, 22, 27, 66, 68, 69, 70, 71, 83, 87] [] Try.func6 rfl (by decide) (by kernel_rfl) rfl ?_
  simp [i64c]
  refine callT_eq [] Awk20_T ?_
  have hT := i64_and65535 tn
  have hT0 : 0 ≤ tn % 65536 ∧ tn % 65536 < 65536 := by omega
  generalize tn % 65536 = T at hT hT0
  have hsuf : ∀ (m : List Int) (n : Nat), m.length = n → n ≤ 40 → callT Try.prog 14 [.isl (m.map i64c) n] ⟨[], []⟩ (fun x h => x = .agg (Ros.mk (setOf m) 0).cells ∧ h = []) := fun m n h1 h2 => by
    subst h1
    exact ROf_T m (by omega)
  have ea := i64_and255 at0
  have ea0 : 0 ≤ at0 % 256 := by omega
  generalize at0 % 256 = B at ea ea0
  have hcases : (40 < ps.length ∧ 40 ≤ ps.length) ∨ (¬ 40 < ps.length) := by omega
  rcases hcases with ⟨hp, hp2⟩ | hp
  · have hp' : (40 : Int) < ps.length := by omega
    have hml : (ps.take 40).length = 40 := by simp; omega
    simp [hT, hp', hp, hp2]
    rw [← List.map_take]
    generalize ps.take 40 = m at hml ⊢
    refine ⟨by omega, ?_⟩
    have hof := hsuf m 40 hml (by omega)
    have hs := setOf_lt m
    generalize setOf m = S at hs hof
    refine callT_eq [] hof ?_
    simp [Ros.cells, u32v, i64c]
    intro v11
    have hw := fit_wf (t := T) (was := ⟨S, 0⟩) (cs := cs) (L := L) hs (by omega)
    have hf := Fit_T T ⟨S, 0⟩ cs L hs (by simp) (by simp) hcl
    have hck := fit_chk (t := T) (was := ⟨S, 0⟩) (cs := cs) (L := L) hs
    have hxt : (fit T ⟨S, 0⟩ cs L).t = T := rfl
    have hxp : (fit T ⟨S, 0⟩ cs L).pt = 0 := rfl
    have hxd : (fit T ⟨S, 0⟩ cs L).pd = 0 := rfl
    generalize fit T ⟨S, 0⟩ cs L = X at *
    obtain ⟨t, c, pt, pd, l⟩ := X
    simp only at hxt hxp hxd
    subst hxt hxp hxd
    refine callT_eq [] hf ?_
    simp [Rec.cells, Ros.cells, u32v, i64c]
    intro v12
    have htx := RcText_T ⟨t, c, 0, 0, l⟩ hw.rd.ok
    have htr := RcTextR_T ⟨t, c, 0, 0, l⟩ hw.rd.ok
    have hpa := RcParse_T (Rec.mk t c 0 0 l).bytes
    rw [parse_nb hw] at hpa
    have hor := RcOrders_T ⟨t, c, 0, 0, l⟩ (fun q hq => (hw.l q hq).l) (by have := hw.ll; omega)
    have hsame := RcSame_T ⟨t, c, 0, 0, l⟩ ⟨t, c, 0, 0, l⟩ (by have := hw.cl; omega) (by have := hw.ll; omega) (fun q hq => by have := (hw.c q hq).l; omega) (fun q hq => by have := (hw.l q hq).l; omega)
    have htold := RcTold_T ⟨t, c, 0, 0, l⟩ (by have := hw.cl; omega) (by have := hw.ll; omega) (fun q hq => by have := (hw.l q hq).l; omega)
    have kc : c.length ≤ 1000000 := by have := hw.cl; simp only at this; omega
    have kl32 := hw.ll
    simp only at kl32
    have kl : l.length ≤ 1000000 := by omega
    have kv : ∀ q ∈ c, q.v.length ≤ 1000000 := fun q hq => by have := (hw.c q hq).l; omega
    have kb8 : ∀ q ∈ l, q.b.length ≤ 8 := fun q hq => (hw.l q hq).l
    have kb : ∀ q ∈ l, q.b.length ≤ 1000000 := fun q hq => by have := kb8 q hq; omega
    have hc0 := RcChk_T ⟨t, c, 0, 0, l⟩ t ⟨S, 0⟩ hs kv kc (by simp) (by simp) kl kb
    rw [hck] at hc0
    refine callT_eq [] htx ?_
    simp [Rec.cells, Ros.cells, u32v, i64c]
    refine callT_eq [] hpa ?_
    simp [Rec.cells, Ros.cells, u32v, i64c]
    intro v14
    refine draw_g [0, 1, 2, 3, 4, 5, 6, 7, 8, 9, 10, 11, 12, 13, 14, 15, 16, 17, 18, 19] 20 [(3, [0, 1, 2]), (8, [0, 1, 2, 3, 4, 5, 7]), (9, [0, 1, 2, 3, 4, 5, 7, 8]), (19, [0, 1, 2, 3, 4, 5, 6, 7, 8, 9, 10, 11, 12, 13, 14, 15, 16, 18])] (by kernel_rfl) (by kernel_rfl) (by kernel_rfl) ?_
    simp [Rec.cells, Ros.cells, u32v, i64c]
    refine callT_eq [] hc0 ?_
    simp [Rec.cells, Ros.cells, u32v, i64c]
    refine callT_eq [] htold ?_
    simp [Rec.cells, Ros.cells, u32v, i64c]
    refine callT_eq [] htr ?_
    simp [Rec.cells, Ros.cells, u32v, i64c]
    refine callT_eq [] htold ?_
    simp [Rec.cells, Ros.cells, u32v, i64c]
    refine callT_eq [] hsame ?_
    simp [Rec.cells, Ros.cells, u32v, i64c]
    refine loopT_of (Nat × Nat) (fun x => x.1 ≤ l.length) (fun x => ⟨[(0, i64c t), (4, i64c at0), (11, .at 11 v11 0), (12, .at 12 v12 0), (16, i64c (cnt (l.take x.1))), (68, .isl (rowP l) l.length), (69, .v (.int .i64 l.length)), (70, .v (.int .i64 x.1))], [(11, v11, ⟨0, (Ros.mk S 0).cells⟩), (12, v12, ⟨0, (Rec.mk t c 0 0 l).cells⟩)]⟩) (fun x => l.length - x.1) (0, 0) (by simp) (by simp [cnt, i64c]) (by simp [Rec.cells, Ros.cells, u32v, i64c]) ?_
    rintro ⟨k, z⟩ hk
    simp only at hk ⊢
    by_cases g : k < l.length
    · have hat := rowP_at g
      have hsn : cnt (l.take (k + 1)) = cnt (l.take k) + l[k].b.length := by rw [List.take_succ_eq_append_getElem g, cnt_snoc]
      have e1 : IntKind.i64.wrap ((k : Int) + 1) = ((k + 1 : Nat) : Int) := by rw [i64_id (by omega) (by omega)]; rfl
      have h8 := kb8 l[k] (List.getElem_mem g)
      have hc := cnt_le (l := l.take k) fun q hq => kb8 q (List.mem_of_mem_take hq)
      simp at hc
      have e2 : IntKind.i64.wrap (cnt (l.take k) + (l[k].b.length : Int)) = cnt (l.take k) + l[k].b.length := i64_id (by omega) (by omega)
      simp [g, hat, i64c]
      intro v18
      exact SLx.again (k + 1, 0) (by simp only; omega) (by simp only; omega) (by simp [e1, e2, hsn, i64c]) (by simp [Rec.cells, Ros.cells, u32v, i64c])
    · have : k = l.length := by omega
      subst this
      simp [Rec.cells, Ros.cells, u32v, i64c]
      refine callT_eq [] hor ?_
      by_cases hl0 : l.length = 0
      · simp [Rec.cells, Ros.cells, u32v, i64c, hl0]
      · have hl0' : ¬ (l.length : Int) = 0 := by omega
        have em : B.tmod (l.length : Int) = B % l.length := Int.tmod_eq_emod_of_nonneg ea0
        have hA : ∃ A : Nat, A < l.length ∧ B % (l.length : Int) = A := ⟨(B % (l.length : Int)).toNat, by have := Int.emod_lt_of_pos B (show (0 : Int) < l.length by omega); omega, by have := Int.emod_nonneg B hl0'; omega⟩
        obtain ⟨A, hA1, hA2⟩ := hA
        have ew : IntKind.i64.wrap (A : Int) = A := i64_id (by omega) (by omega)
        have ew2 : IntKind.i64.wrap ((A : Int) + 1) = ((A + 1 : Nat) : Int) := by rw [i64_id (by omega) (by omega)]; rfl
        simp [Rec.cells, Ros.cells, u32v, i64c, hl0, hl0', ea, em, hA2, ew]
        refine drawT_cut (α := Nat × Nat) (fun _ => True) (fun x => ⟨[(0, i64c t), (4, i64c A), (11, .at 11 v11 0), (12, .at 12 v12 0), (19, .at 19 x.1 0), (20, .at 20 x.2 0)], [(11, v11, ⟨0, (Ros.mk S 0).cells⟩), (12, v12, ⟨0, (Rec.mk t c 0 0 l).cells⟩), (19, x.1, ⟨0, (Rec.mk t c 0 0 l).cells⟩), (20, x.2, ⟨0, (Rec.mk t c 0 0 l).cells⟩)]⟩) ?_ ?_
        · refine draw_h (pl [0, 1] (.alt 2 (pl [3, 4] .nil) 3 (pl [2, 4] .nil))) 5 [(2, []), (3, []), (4, [0, 2, 3])] (by kernel_rfl) (by kernel_rfl) (by kernel_rfl) (by kernel_rfl) ?_
          simp [Rec.cells, Ros.cells, u32v, i64c]
          refine ⟨fun v19 v20 => ?_, fun v20 v19 => ?_⟩
          · exact SLx.at (v19, v20) trivial (by simp [i64c]) (by simp [Rec.cells, Ros.cells, u32v, i64c])
          · exact SLx.at (v19, v20) trivial (by simp [i64c]) (by simp [Rec.cells, Ros.cells, u32v, i64c])
        rintro ⟨v19, v20⟩ -
        have hA3 : A ≤ l.length := by omega
        have hA4 : A + 1 ≤ l.length := by omega
        simp [Rec.cells, Ros.cells, u32v, i64c]
        refine draw_g [1, 2, 3, 4, 6, 7, 8, 9, 10, 0, 5] 11 [(0, []), (5, [0, 1, 2, 3, 4])] (by kernel_rfl) (by kernel_rfl) (by kernel_rfl) ?_
        simp [Rec.cells, Ros.cells, u32v, i64c, ew2]
        have hD : ((l.length : Int) - ((A : Int) + 1)).toNat = l.length - (A + 1) := by omega
        have hD2 : ((l.length : Int) - (A : Int)).toNat = l.length - A := by omega
        have hTD : List.take (l.length - (A + 1)) (List.drop (A + 1) l) = List.drop (A + 1) l := List.take_of_length_le (by simp)
        have hTD2 : List.take (l.length - A) (List.drop A l) = List.drop A l := List.take_of_length_le (by simp)
        have hmn : min A l.length = A := by omega
        have hmn2 : min (A + 1) l.length = A + 1 := by omega
        simp [hD, hD2, hTD, hTD2, hmn, hmn2, rowP_take, rowP_drop]
        repeat refine ⟨by omega, ?_⟩
        intro v96
        refine draw_g [1, 2, 3, 4, 5, 7, 8, 9, 10, 0, 6] 11 [(0, []), (6, [0, 1, 2, 3, 4, 5])] (by kernel_rfl) (by kernel_rfl) (by kernel_rfl) ?_
        simp [Rec.cells, Ros.cells, u32v, i64c, ew2]
        simp [hD, hD2, hTD, hTD2, hmn, hmn2, rowP_take, rowP_drop, List.take_take]
        repeat refine ⟨by omega, ?_⟩
        intro v109
        have hc1 : callT Try.prog 16 [.agg [i64c t, .isl (rowG c) c.length, i64c 0, i64c 0, .isl (rowP (l.take A) ++ rowP (l.drop (A + 1))) (A + (l.length - (A + 1)))], i64c t, .agg [u32v S, i64c 0]] ⟨[], []⟩ (fun x h => x = i64c 13 ∧ h = []) := by
          have hh := RcChk_T ⟨t, c, 0, 0, l.take A ++ l.drop (A + 1)⟩ t ⟨S, 0⟩ hs kv kc (by simp) (by simp) (by simp; omega) (fun q hq => by
            rcases List.mem_append.1 hq with hq | hq
            · exact kb q (List.mem_of_mem_take hq)
            · exact kb q (List.mem_of_mem_drop hq))
          rw [chk13 (r := ⟨t, c, 0, 0, l⟩) hck (by simp; omega)] at hh
          simpa [Rec.cells, Ros.cells, rowP_app, hmn] using hh
        have hc2 : callT Try.prog 16 [.agg [i64c t, .isl (rowG c) c.length, i64c 0, i64c 0, .isl (rowP (l.take (A + 1)) ++ rowP (l.drop A)) (A + 1 + (l.length - A))], i64c t, .agg [u32v S, i64c 0]] ⟨[], []⟩ (fun x h => x = i64c 13 ∧ h = []) := by
          have hh := RcChk_T ⟨t, c, 0, 0, l.take (A + 1) ++ l.drop A⟩ t ⟨S, 0⟩ hs kv kc (by simp) (by simp) (by simp; omega) (fun q hq => by
            rcases List.mem_append.1 hq with hq | hq
            · exact kb q (List.mem_of_mem_take hq)
            · exact kb q (List.mem_of_mem_drop hq))
          rw [chk13 (r := ⟨t, c, 0, 0, l⟩) hck (by simp; omega)] at hh
          simpa [Rec.cells, Ros.cells, rowP_app, hmn2] using hh
        have ht1 : List.take ((A + (l.length - (A + 1))) * 2) (rowP (l.take A) ++ rowP (l.drop (A + 1))) = rowP (l.take A) ++ rowP (l.drop (A + 1)) := List.take_of_length_le (by simp; omega)
        have ht2 : List.take ((A + 1 + (l.length - A)) * 2) (rowP (l.take (A + 1)) ++ rowP (l.drop A)) = rowP (l.take (A + 1)) ++ rowP (l.drop A) := List.take_of_length_le (by simp; omega)
        refine callT.pre (fn_of hc1) (CLx.frz 96 rfl (CLx.done ?_))
        simp [ht1]
        refine callT_eq [] hc1 ?_
        simp [Rec.cells, Ros.cells, u32v, i64c]
        refine callT.pre (fn_of hc2) (CLx.frz 109 rfl (CLx.done ?_))
        simp [ht2]
        refine callT_eq [] hc2 ?_
        simp [Rec.cells, Ros.cells, u32v, i64c]
  · have hp' : ¬ (40 : Int) < ps.length := by omega
    simp [hT, hp', hp]
    have hof := hsuf ps ps.length rfl (by omega)
    generalize ps.length = n at hof ⊢
    generalize hm : ps = m at hof ⊢
    have hs := setOf_lt m
    generalize setOf m = S at hs hof
    refine callT_eq [] hof ?_
    simp [Ros.cells, u32v, i64c]
    intro v11
    have hw := fit_wf (t := T) (was := ⟨S, 0⟩) (cs := cs) (L := L) hs (by omega)
    have hf := Fit_T T ⟨S, 0⟩ cs L hs (by simp) (by simp) hcl
    have hck := fit_chk (t := T) (was := ⟨S, 0⟩) (cs := cs) (L := L) hs
    have hxt : (fit T ⟨S, 0⟩ cs L).t = T := rfl
    have hxp : (fit T ⟨S, 0⟩ cs L).pt = 0 := rfl
    have hxd : (fit T ⟨S, 0⟩ cs L).pd = 0 := rfl
    generalize fit T ⟨S, 0⟩ cs L = X at *
    obtain ⟨t, c, pt, pd, l⟩ := X
    simp only at hxt hxp hxd
    subst hxt hxp hxd
    refine callT_eq [] hf ?_
    simp [Rec.cells, Ros.cells, u32v, i64c]
    intro v12
    have htx := RcText_T ⟨t, c, 0, 0, l⟩ hw.rd.ok
    have htr := RcTextR_T ⟨t, c, 0, 0, l⟩ hw.rd.ok
    have hpa := RcParse_T (Rec.mk t c 0 0 l).bytes
    rw [parse_nb hw] at hpa
    have hor := RcOrders_T ⟨t, c, 0, 0, l⟩ (fun q hq => (hw.l q hq).l) (by have := hw.ll; omega)
    have hsame := RcSame_T ⟨t, c, 0, 0, l⟩ ⟨t, c, 0, 0, l⟩ (by have := hw.cl; omega) (by have := hw.ll; omega) (fun q hq => by have := (hw.c q hq).l; omega) (fun q hq => by have := (hw.l q hq).l; omega)
    have htold := RcTold_T ⟨t, c, 0, 0, l⟩ (by have := hw.cl; omega) (by have := hw.ll; omega) (fun q hq => by have := (hw.l q hq).l; omega)
    have kc : c.length ≤ 1000000 := by have := hw.cl; simp only at this; omega
    have kl32 := hw.ll
    simp only at kl32
    have kl : l.length ≤ 1000000 := by omega
    have kv : ∀ q ∈ c, q.v.length ≤ 1000000 := fun q hq => by have := (hw.c q hq).l; omega
    have kb8 : ∀ q ∈ l, q.b.length ≤ 8 := fun q hq => (hw.l q hq).l
    have kb : ∀ q ∈ l, q.b.length ≤ 1000000 := fun q hq => by have := kb8 q hq; omega
    have hc0 := RcChk_T ⟨t, c, 0, 0, l⟩ t ⟨S, 0⟩ hs kv kc (by simp) (by simp) kl kb
    rw [hck] at hc0
    refine callT_eq [] htx ?_
    simp [Rec.cells, Ros.cells, u32v, i64c]
    refine callT_eq [] hpa ?_
    simp [Rec.cells, Ros.cells, u32v, i64c]
    intro v14
    refine draw_g [0, 1, 2, 3, 4, 5, 6, 7, 8, 9, 10, 11, 12, 13, 14, 15, 16, 17, 18, 19] 20 [(3, [0, 1, 2]), (8, [0, 1, 2, 3, 4, 5, 7]), (9, [0, 1, 2, 3, 4, 5, 7, 8]), (19, [0, 1, 2, 3, 4, 5, 6, 7, 8, 9, 10, 11, 12, 13, 14, 15, 16, 18])] (by kernel_rfl) (by kernel_rfl) (by kernel_rfl) ?_
    simp [Rec.cells, Ros.cells, u32v, i64c]
    refine callT_eq [] hc0 ?_
    simp [Rec.cells, Ros.cells, u32v, i64c]
    refine callT_eq [] htold ?_
    simp [Rec.cells, Ros.cells, u32v, i64c]
    refine callT_eq [] htr ?_
    simp [Rec.cells, Ros.cells, u32v, i64c]
    refine callT_eq [] htold ?_
    simp [Rec.cells, Ros.cells, u32v, i64c]
    refine callT_eq [] hsame ?_
    simp [Rec.cells, Ros.cells, u32v, i64c]
    refine loopT_of (Nat × Nat) (fun x => x.1 ≤ l.length) (fun x => ⟨[(0, i64c t), (4, i64c at0), (11, .at 11 v11 0), (12, .at 12 v12 0), (16, i64c (cnt (l.take x.1))), (68, .isl (rowP l) l.length), (69, .v (.int .i64 l.length)), (70, .v (.int .i64 x.1))], [(11, v11, ⟨0, (Ros.mk S 0).cells⟩), (12, v12, ⟨0, (Rec.mk t c 0 0 l).cells⟩)]⟩) (fun x => l.length - x.1) (0, 0) (by simp) (by simp [cnt, i64c]) (by simp [Rec.cells, Ros.cells, u32v, i64c]) ?_
    rintro ⟨k, z⟩ hk
    simp only at hk ⊢
    by_cases g : k < l.length
    · have hat := rowP_at g
      have hsn : cnt (l.take (k + 1)) = cnt (l.take k) + l[k].b.length := by rw [List.take_succ_eq_append_getElem g, cnt_snoc]
      have e1 : IntKind.i64.wrap ((k : Int) + 1) = ((k + 1 : Nat) : Int) := by rw [i64_id (by omega) (by omega)]; rfl
      have h8 := kb8 l[k] (List.getElem_mem g)
      have hc := cnt_le (l := l.take k) fun q hq => kb8 q (List.mem_of_mem_take hq)
      simp at hc
      have e2 : IntKind.i64.wrap (cnt (l.take k) + (l[k].b.length : Int)) = cnt (l.take k) + l[k].b.length := i64_id (by omega) (by omega)
      simp [g, hat, i64c]
      intro v18
      exact SLx.again (k + 1, 0) (by simp only; omega) (by simp only; omega) (by simp [e1, e2, hsn, i64c]) (by simp [Rec.cells, Ros.cells, u32v, i64c])
    · have : k = l.length := by omega
      subst this
      simp [Rec.cells, Ros.cells, u32v, i64c]
      refine callT_eq [] hor ?_
      by_cases hl0 : l.length = 0
      · simp [Rec.cells, Ros.cells, u32v, i64c, hl0]
      · have hl0' : ¬ (l.length : Int) = 0 := by omega
        have em : B.tmod (l.length : Int) = B % l.length := Int.tmod_eq_emod_of_nonneg ea0
        have hA : ∃ A : Nat, A < l.length ∧ B % (l.length : Int) = A := ⟨(B % (l.length : Int)).toNat, by have := Int.emod_lt_of_pos B (show (0 : Int) < l.length by omega); omega, by have := Int.emod_nonneg B hl0'; omega⟩
        obtain ⟨A, hA1, hA2⟩ := hA
        have ew : IntKind.i64.wrap (A : Int) = A := i64_id (by omega) (by omega)
        have ew2 : IntKind.i64.wrap ((A : Int) + 1) = ((A + 1 : Nat) : Int) := by rw [i64_id (by omega) (by omega)]; rfl
        simp [Rec.cells, Ros.cells, u32v, i64c, hl0, hl0', ea, em, hA2, ew]
        refine drawT_cut (α := Nat × Nat) (fun _ => True) (fun x => ⟨[(0, i64c t), (4, i64c A), (11, .at 11 v11 0), (12, .at 12 v12 0), (19, .at 19 x.1 0), (20, .at 20 x.2 0)], [(11, v11, ⟨0, (Ros.mk S 0).cells⟩), (12, v12, ⟨0, (Rec.mk t c 0 0 l).cells⟩), (19, x.1, ⟨0, (Rec.mk t c 0 0 l).cells⟩), (20, x.2, ⟨0, (Rec.mk t c 0 0 l).cells⟩)]⟩) ?_ ?_
        · refine draw_h (pl [0, 1] (.alt 2 (pl [3, 4] .nil) 3 (pl [2, 4] .nil))) 5 [(2, []), (3, []), (4, [0, 2, 3])] (by kernel_rfl) (by kernel_rfl) (by kernel_rfl) (by kernel_rfl) ?_
          simp [Rec.cells, Ros.cells, u32v, i64c]
          refine ⟨fun v19 v20 => ?_, fun v20 v19 => ?_⟩
          · exact SLx.at (v19, v20) trivial (by simp [i64c]) (by simp [Rec.cells, Ros.cells, u32v, i64c])
          · exact SLx.at (v19, v20) trivial (by simp [i64c]) (by simp [Rec.cells, Ros.cells, u32v, i64c])
        rintro ⟨v19, v20⟩ -
        have hA3 : A ≤ l.length := by omega
        have hA4 : A + 1 ≤ l.length := by omega
        simp [Rec.cells, Ros.cells, u32v, i64c]
        refine draw_g [1, 2, 3, 4, 6, 7, 8, 9, 10, 0, 5] 11 [(0, []), (5, [0, 1, 2, 3, 4])] (by kernel_rfl) (by kernel_rfl) (by kernel_rfl) ?_
        simp [Rec.cells, Ros.cells, u32v, i64c, ew2]
        have hD : ((l.length : Int) - ((A : Int) + 1)).toNat = l.length - (A + 1) := by omega
        have hD2 : ((l.length : Int) - (A : Int)).toNat = l.length - A := by omega
        have hTD : List.take (l.length - (A + 1)) (List.drop (A + 1) l) = List.drop (A + 1) l := List.take_of_length_le (by simp)
        have hTD2 : List.take (l.length - A) (List.drop A l) = List.drop A l := List.take_of_length_le (by simp)
        have hmn : min A l.length = A := by omega
        have hmn2 : min (A + 1) l.length = A + 1 := by omega
        simp [hD, hD2, hTD, hTD2, hmn, hmn2, rowP_take, rowP_drop]
        repeat refine ⟨by omega, ?_⟩
        intro v96
        refine draw_g [1, 2, 3, 4, 5, 7, 8, 9, 10, 0, 6] 11 [(0, []), (6, [0, 1, 2, 3, 4, 5])] (by kernel_rfl) (by kernel_rfl) (by kernel_rfl) ?_
        simp [Rec.cells, Ros.cells, u32v, i64c, ew2]
        simp [hD, hD2, hTD, hTD2, hmn, hmn2, rowP_take, rowP_drop, List.take_take]
        repeat refine ⟨by omega, ?_⟩
        intro v109
        have hc1 : callT Try.prog 16 [.agg [i64c t, .isl (rowG c) c.length, i64c 0, i64c 0, .isl (rowP (l.take A) ++ rowP (l.drop (A + 1))) (A + (l.length - (A + 1)))], i64c t, .agg [u32v S, i64c 0]] ⟨[], []⟩ (fun x h => x = i64c 13 ∧ h = []) := by
          have hh := RcChk_T ⟨t, c, 0, 0, l.take A ++ l.drop (A + 1)⟩ t ⟨S, 0⟩ hs kv kc (by simp) (by simp) (by simp; omega) (fun q hq => by
            rcases List.mem_append.1 hq with hq | hq
            · exact kb q (List.mem_of_mem_take hq)
            · exact kb q (List.mem_of_mem_drop hq))
          rw [chk13 (r := ⟨t, c, 0, 0, l⟩) hck (by simp; omega)] at hh
          simpa [Rec.cells, Ros.cells, rowP_app, hmn] using hh
        have hc2 : callT Try.prog 16 [.agg [i64c t, .isl (rowG c) c.length, i64c 0, i64c 0, .isl (rowP (l.take (A + 1)) ++ rowP (l.drop A)) (A + 1 + (l.length - A))], i64c t, .agg [u32v S, i64c 0]] ⟨[], []⟩ (fun x h => x = i64c 13 ∧ h = []) := by
          have hh := RcChk_T ⟨t, c, 0, 0, l.take (A + 1) ++ l.drop A⟩ t ⟨S, 0⟩ hs kv kc (by simp) (by simp) (by simp; omega) (fun q hq => by
            rcases List.mem_append.1 hq with hq | hq
            · exact kb q (List.mem_of_mem_take hq)
            · exact kb q (List.mem_of_mem_drop hq))
          rw [chk13 (r := ⟨t, c, 0, 0, l⟩) hck (by simp; omega)] at hh
          simpa [Rec.cells, Ros.cells, rowP_app, hmn2] using hh
        have ht1 : List.take ((A + (l.length - (A + 1))) * 2) (rowP (l.take A) ++ rowP (l.drop (A + 1))) = rowP (l.take A) ++ rowP (l.drop (A + 1)) := List.take_of_length_le (by simp; omega)
        have ht2 : List.take ((A + 1 + (l.length - A)) * 2) (rowP (l.take (A + 1)) ++ rowP (l.drop A)) = rowP (l.take (A + 1)) ++ rowP (l.drop A) := List.take_of_length_le (by simp; omega)
        refine callT.pre (fn_of hc1) (CLx.frz 96 rfl (CLx.done ?_))
        simp [ht1]
        refine callT_eq [] hc1 ?_
        simp [Rec.cells, Ros.cells, u32v, i64c]
        refine callT.pre (fn_of hc2) (CLx.frz 109 rfl (CLx.done ?_))
        simp [ht2]
        refine callT_eq [] hc2 ?_
        simp [Rec.cells, Ros.cells, u32v, i64c]
end Go.Proofs.Ytmpmkedebjejgaa.TL
