/- The law FoldMay, walked. -/
import Derived.Test.YtgkhedmjkahclaaUFMay
namespace Go.Proofs.Ytgkhedmjkahclaa.TL
open Go
set_option linter.unusedVariables false
set_option linter.unusedSimpArgs false

set_option maxHeartbeats 16000000 in
set_option maxRecDepth 100000 in
theorem FoldMay_T (I : List Fn) (qs : List Int) (a b : Int) (hq : qs.length ≤ 140737488351232) : callT Try.prog 5 [.agg [.isl (rowFn I) I.length], .isl (qs.map i64c) qs.length, i64c a, i64c b] ⟨[], []⟩ (fun r h => r = .v (.bool true)) := by
  refine callT_of_body [0, 1, 2, 3, 4, 8, 9, 10, 11, 12, 14, 15, 17, 20, 32, 38, 44, 45, 46, 66, 82, 85, 91] [] Try.func5 rfl (by decide) (by kernel_rfl) rfl ?_
  simp [i64c]
  intro v4
  refine callT_eq [] Awk22_T ?_
  obtain ⟨ps, hps⟩ : ∃ ps, ps = qs.take 40 := ⟨_, rfl⟩
  have hpl : ps.length ≤ 40 := by rw [hps]; simp; omega
  by_cases h40 : 40 < qs.length
  · have h40' : 40 < (qs.length : Int) := by omega
    have hp40 : ps.length = 40 := by rw [hps]; simp; omega
    have htk : List.take 40 (qs.map i64c) = ps.map i64c := by rw [hps, List.map_take]
    by_cases l0 : I.length = 0
    · have l0c : (I.length : Int) = 0 := by omega
      simp [i64c, u64c, l0, l0c, h40, h40', htk]
      refine ⟨by omega, ?_⟩
      intro v9
      refine callT_eq [] Idle_T ?_
      simp
      have hid : idleI.length = 2 := rfl
      refine ⟨Nat, fun j => j ≤ (idleI).length, fun j => ⟨[(1, .isl (ps.map i64c) ps.length), (2, i64c a), (3, i64c b), (9, .at 9 v9 0), (44, i64c (idleI).length), (45, i64c j)],
        [(4, v4, ⟨0, [.isl (rowFn I) I.length]⟩), (9, v9, ⟨0, [.isl (rowFn idleI) (idleI).length, u64c 0, .isl (ps.map i64c) ps.length, i64c a, i64c b]⟩)]⟩, fun j => (idleI).length - j, ?_, ?_⟩
      · exact SLx.fin _ ⟨0, by simp, rfl⟩ (by simp [i64c, hid, l0, hp40]) (by simp [i64c, u64c, hid, l0, hp40])
      intro j hj
      by_cases g : j < (idleI).length
      · have g' : (j : Int) < (idleI).length := by omega
        have ej : IntKind.i64.wrap ((j : Int) + 1) = ((j + 1 : Nat) : Int) := by rw [i64_id (by omega) (by omega)]; rfl
        have hat := rowFn_at (List.getElem?_eq_getElem g)
        generalize (idleI)[j] = f at hat
        simp only [i64v] at hat
        by_cases c1 : 60 < f.code.length
        · have c1' : 60 < (f.code.length : Int) := by omega
          simp [i64c, i64v, u64c, g, g', hat, c1, c1', hp40]
          have hgo := Good_T a b
          have hop := Open22_T ps (by omega)
          have hI1 : (([] : List Fn)).length ≤ 1000000 := by simp
          simp only [i64c, hp40] at hgo hop
          by_cases hc : fchk ([] : List Fn) ps a b = 0
          · have hF := FNew_T ([] : List Fn) hI1 0 ps (by omega) a b hc
            have h1 : chkV ([] : List Fn) = 0 := Classical.byContradiction fun h => by simp [fchk, h] at hc
            have h2 : pchk a b = 0 := Classical.byContradiction fun h => by simp [fchk, h1, h] at hc
            have h3 : openF ps = true := by
              cases h : openF ps with
              | true => rfl
              | false =>
                simp only [openF, Bool.and_eq_false_iff, decide_eq_false_iff_not] at h
                rw [fchk, if_neg (by simp [h1]), if_neg (by simp [h2]), if_pos (by rcases h with h | h; exact .inr h; exact .inl h)] at hc
                cases hc
            have hN := WNew_T ([] : List Fn) hI1 0 h1
            simp only [fdGame, u64c, i64c, rowFn, List.map_nil, List.flatten_nil, List.length_nil, hp40] at hF hN
            rw [h2] at hgo
            rw [h3] at hop
            refine callT.pre (fn_of hF) (CLx.weak 0 (.agg [.isl [] 0, .v (.int .u64 0), .isl (ps.map i64c) ps.length, .v (.int .i64 a), .v (.int .i64 b)]) rfl (fun E y h => by have h2 := RV_nz _ _ h; simpa [fdGame, u64c, i64c, hp40] using h2) (CLx.done ?_))
            simp [hp40]
            refine callT_exa [(2000, 2000), (2001, 2001), (2002, 2002), (2003, 2003), (2004, 2004), (2005, 2005), (2006, 2006)] hF ?_
            simp [i64c, i64v, u32v, hp40]
            intro v V u
            refine callT.pre (fn_of hN) (CLx.weak 0 (.agg [.isl [] 0]) rfl RV_nilA (CLx.done ?_))
            simp
            refine callT_exa [(2001, 2101), (2002, 2102), (2003, 2103), (2004, 2104), (2005, 2105), (2006, 2106)] hN ?_
            simp [i64c, i64v, u32v, hp40]
            intro V2 u2
            refine callT_eq [] hgo ?_
            simp
            refine callT_eq [] hop ?_
            simp
          · have hF := FNew_no ([] : List Fn) hI1 0 ps (by omega) a b hc
            by_cases h1 : chkV ([] : List Fn) = 0
            · have hN := WNew_T ([] : List Fn) hI1 0 h1
              simp only [fdGame, u64c, i64c, rowFn, List.map_nil, List.flatten_nil, List.length_nil, hp40] at hF hN
              refine callT.pre (fn_of hF) (CLx.weak 0 (.agg [.isl [] 0, .v (.int .u64 0), .isl (ps.map i64c) ps.length, .v (.int .i64 a), .v (.int .i64 b)]) rfl (fun E y h => by have h2 := RV_nz _ _ h; simpa [fdGame, u64c, i64c, hp40] using h2) (CLx.done ?_))
              simp [hp40]
              refine callT_eq [] hF ?_
              simp [i64c, i64v, u32v, hp40]
              refine callT.pre (fn_of hN) (CLx.weak 0 (.agg [.isl [] 0]) rfl RV_nilA (CLx.done ?_))
              simp
              refine callT_exa [(2001, 2101), (2002, 2102), (2003, 2103), (2004, 2104), (2005, 2105), (2006, 2106)] hN ?_
              simp [i64c, i64v, u32v, hp40]
              intro V2 u2
              refine callT_eq [] hgo ?_
              by_cases h2 : pchk a b = 0
              · have hf : fchk ([] : List Fn) ps a b = 13 := by
                  rw [fchk, if_neg (by simp [h1]), if_neg (by simp [h2])] at hc ⊢
                  by_cases h3 : (Ros.mk (setOf ps) 0).has 0 = false ∨ (Ros.mk (setOf ps) 0).len ≠ ps.length
                  · rw [if_pos h3]
                  · rw [if_neg h3] at hc; exact absurd rfl hc
                have h3 : openF ps = false := by
                  cases h : openF ps with
                  | false => rfl
                  | true =>
                    simp only [openF, Bool.and_eq_true, decide_eq_true_eq] at h
                    rw [fchk, if_neg (by simp [h1]), if_neg (by simp [h2]), if_neg (by rintro (h' | h'); rw [h.2] at h'; cases h'; exact h' h.1)] at hf
                    cases hf
                simp [h2]
                refine callT_eq [] hop ?_
                simp [h3, hf]
              · have hf : fchk ([] : List Fn) ps a b = 4 := by
                  have h4 : pchk a b = 4 := by
                    by_cases h4 : a < 1 ∨ 64 < a ∨ b < 1 ∨ 6 < b
                    · unfold pchk; rw [if_pos h4]
                    · exact absurd (by unfold pchk; rw [if_neg h4]) h2
                  rw [fchk, if_neg (by simp [h1]), if_pos h2, h4]
                simp [h2, hf]
            · have hN := WNew_no ([] : List Fn) hI1 0 h1
              have hf : fchk ([] : List Fn) ps a b = chkV ([] : List Fn) := by rw [fchk, if_pos h1]
              simp only [fdGame, u64c, i64c, rowFn, List.map_nil, List.flatten_nil, List.length_nil, hp40] at hF hN
              refine callT.pre (fn_of hF) (CLx.weak 0 (.agg [.isl [] 0, .v (.int .u64 0), .isl (ps.map i64c) ps.length, .v (.int .i64 a), .v (.int .i64 b)]) rfl (fun E y h => by have h2 := RV_nz _ _ h; simpa [fdGame, u64c, i64c, hp40] using h2) (CLx.done ?_))
              simp [hp40]
              refine callT_eq [] hF ?_
              simp [i64c, i64v, u32v, hp40]
              refine callT.pre (fn_of hN) (CLx.weak 0 (.agg [.isl [] 0]) rfl RV_nilA (CLx.done ?_))
              simp
              refine callT_eq [] hN ?_
              simp [h1, hf]
        · have c1' : ¬ 60 < (f.code.length : Int) := by omega
          by_cases c2 : 16 < f.args
          · simp [i64c, i64v, u64c, g, g', hat, c1, c1', c2, hp40]
            have hgo := Good_T a b
            have hop := Open22_T ps (by omega)
            have hI1 : (([] : List Fn)).length ≤ 1000000 := by simp
            simp only [i64c, hp40] at hgo hop
            by_cases hc : fchk ([] : List Fn) ps a b = 0
            · have hF := FNew_T ([] : List Fn) hI1 0 ps (by omega) a b hc
              have h1 : chkV ([] : List Fn) = 0 := Classical.byContradiction fun h => by simp [fchk, h] at hc
              have h2 : pchk a b = 0 := Classical.byContradiction fun h => by simp [fchk, h1, h] at hc
              have h3 : openF ps = true := by
                cases h : openF ps with
                | true => rfl
                | false =>
                  simp only [openF, Bool.and_eq_false_iff, decide_eq_false_iff_not] at h
                  rw [fchk, if_neg (by simp [h1]), if_neg (by simp [h2]), if_pos (by rcases h with h | h; exact .inr h; exact .inl h)] at hc
                  cases hc
              have hN := WNew_T ([] : List Fn) hI1 0 h1
              simp only [fdGame, u64c, i64c, rowFn, List.map_nil, List.flatten_nil, List.length_nil, hp40] at hF hN
              rw [h2] at hgo
              rw [h3] at hop
              refine callT.pre (fn_of hF) (CLx.weak 0 (.agg [.isl [] 0, .v (.int .u64 0), .isl (ps.map i64c) ps.length, .v (.int .i64 a), .v (.int .i64 b)]) rfl (fun E y h => by have h2 := RV_nz _ _ h; simpa [fdGame, u64c, i64c, hp40] using h2) (CLx.done ?_))
              simp [hp40]
              refine callT_exa [(2000, 2000), (2001, 2001), (2002, 2002), (2003, 2003), (2004, 2004), (2005, 2005), (2006, 2006)] hF ?_
              simp [i64c, i64v, u32v, hp40]
              intro v V u
              refine callT.pre (fn_of hN) (CLx.weak 0 (.agg [.isl [] 0]) rfl RV_nilA (CLx.done ?_))
              simp
              refine callT_exa [(2001, 2101), (2002, 2102), (2003, 2103), (2004, 2104), (2005, 2105), (2006, 2106)] hN ?_
              simp [i64c, i64v, u32v, hp40]
              intro V2 u2
              refine callT_eq [] hgo ?_
              simp
              refine callT_eq [] hop ?_
              simp
            · have hF := FNew_no ([] : List Fn) hI1 0 ps (by omega) a b hc
              by_cases h1 : chkV ([] : List Fn) = 0
              · have hN := WNew_T ([] : List Fn) hI1 0 h1
                simp only [fdGame, u64c, i64c, rowFn, List.map_nil, List.flatten_nil, List.length_nil, hp40] at hF hN
                refine callT.pre (fn_of hF) (CLx.weak 0 (.agg [.isl [] 0, .v (.int .u64 0), .isl (ps.map i64c) ps.length, .v (.int .i64 a), .v (.int .i64 b)]) rfl (fun E y h => by have h2 := RV_nz _ _ h; simpa [fdGame, u64c, i64c, hp40] using h2) (CLx.done ?_))
                simp [hp40]
                refine callT_eq [] hF ?_
                simp [i64c, i64v, u32v, hp40]
                refine callT.pre (fn_of hN) (CLx.weak 0 (.agg [.isl [] 0]) rfl RV_nilA (CLx.done ?_))
                simp
                refine callT_exa [(2001, 2101), (2002, 2102), (2003, 2103), (2004, 2104), (2005, 2105), (2006, 2106)] hN ?_
                simp [i64c, i64v, u32v, hp40]
                intro V2 u2
                refine callT_eq [] hgo ?_
                by_cases h2 : pchk a b = 0
                · have hf : fchk ([] : List Fn) ps a b = 13 := by
                    rw [fchk, if_neg (by simp [h1]), if_neg (by simp [h2])] at hc ⊢
                    by_cases h3 : (Ros.mk (setOf ps) 0).has 0 = false ∨ (Ros.mk (setOf ps) 0).len ≠ ps.length
                    · rw [if_pos h3]
                    · rw [if_neg h3] at hc; exact absurd rfl hc
                  have h3 : openF ps = false := by
                    cases h : openF ps with
                    | false => rfl
                    | true =>
                      simp only [openF, Bool.and_eq_true, decide_eq_true_eq] at h
                      rw [fchk, if_neg (by simp [h1]), if_neg (by simp [h2]), if_neg (by rintro (h' | h'); rw [h.2] at h'; cases h'; exact h' h.1)] at hf
                      cases hf
                  simp [h2]
                  refine callT_eq [] hop ?_
                  simp [h3, hf]
                · have hf : fchk ([] : List Fn) ps a b = 4 := by
                    have h4 : pchk a b = 4 := by
                      by_cases h4 : a < 1 ∨ 64 < a ∨ b < 1 ∨ 6 < b
                      · unfold pchk; rw [if_pos h4]
                      · exact absurd (by unfold pchk; rw [if_neg h4]) h2
                    rw [fchk, if_neg (by simp [h1]), if_pos h2, h4]
                  simp [h2, hf]
              · have hN := WNew_no ([] : List Fn) hI1 0 h1
                have hf : fchk ([] : List Fn) ps a b = chkV ([] : List Fn) := by rw [fchk, if_pos h1]
                simp only [fdGame, u64c, i64c, rowFn, List.map_nil, List.flatten_nil, List.length_nil, hp40] at hF hN
                refine callT.pre (fn_of hF) (CLx.weak 0 (.agg [.isl [] 0, .v (.int .u64 0), .isl (ps.map i64c) ps.length, .v (.int .i64 a), .v (.int .i64 b)]) rfl (fun E y h => by have h2 := RV_nz _ _ h; simpa [fdGame, u64c, i64c, hp40] using h2) (CLx.done ?_))
                simp [hp40]
                refine callT_eq [] hF ?_
                simp [i64c, i64v, u32v, hp40]
                refine callT.pre (fn_of hN) (CLx.weak 0 (.agg [.isl [] 0]) rfl RV_nilA (CLx.done ?_))
                simp
                refine callT_eq [] hN ?_
                simp [h1, hf]
          · simp [i64c, i64v, u64c, g, g', hat, c1, c1', c2, hp40]
            exact SLx.again (j + 1) (by omega) (by omega) (by simp [i64c, ej, hp40]) (by simp [i64c, u64c, hp40])
      · have hjl : j = (idleI).length := by omega
        subst hjl
        simp [i64c, i64v, u64c, hp40]
        have hgo := Good_T a b
        have hop := Open22_T ps (by omega)
        have hI1 : (idleI).length ≤ 1000000 := by simp [idleI]
        simp only [i64c, hp40] at hgo hop
        by_cases hc : fchk idleI ps a b = 0
        · have hF := FNew_T idleI hI1 0 ps (by omega) a b hc
          have h1 : chkV idleI = 0 := Classical.byContradiction fun h => by simp [fchk, h] at hc
          have h2 : pchk a b = 0 := Classical.byContradiction fun h => by simp [fchk, h1, h] at hc
          have h3 : openF ps = true := by
            cases h : openF ps with
            | true => rfl
            | false =>
              simp only [openF, Bool.and_eq_false_iff, decide_eq_false_iff_not] at h
              rw [fchk, if_neg (by simp [h1]), if_neg (by simp [h2]), if_pos (by rcases h with h | h; exact .inr h; exact .inl h)] at hc
              cases hc
          have hN := WNew_T idleI hI1 0 h1
          simp only [fdGame, u64c, i64c, hp40] at hF hN
          rw [h2] at hgo
          rw [h3] at hop
          refine callT_exa [(2000, 2000), (2001, 2001), (2002, 2002), (2003, 2003), (2004, 2004), (2005, 2005), (2006, 2006)] hF ?_
          simp [i64c, i64v, u32v, hp40]
          intro v V u
          refine callT_exa [(2001, 2101), (2002, 2102), (2003, 2103), (2004, 2104), (2005, 2105), (2006, 2106)] hN ?_
          simp [i64c, i64v, u32v, hp40]
          intro V2 u2
          refine callT_eq [] hgo ?_
          simp
          refine callT_eq [] hop ?_
          simp
        · have hF := FNew_no idleI hI1 0 ps (by omega) a b hc
          by_cases h1 : chkV idleI = 0
          · have hN := WNew_T idleI hI1 0 h1
            simp only [fdGame, u64c, i64c, hp40] at hF hN
            refine callT_eq [] hF ?_
            simp [i64c, i64v, u32v, hp40]
            refine callT_exa [(2001, 2101), (2002, 2102), (2003, 2103), (2004, 2104), (2005, 2105), (2006, 2106)] hN ?_
            simp [i64c, i64v, u32v, hp40]
            intro V2 u2
            refine callT_eq [] hgo ?_
            by_cases h2 : pchk a b = 0
            · have hf : fchk idleI ps a b = 13 := by
                rw [fchk, if_neg (by simp [h1]), if_neg (by simp [h2])] at hc ⊢
                by_cases h3 : (Ros.mk (setOf ps) 0).has 0 = false ∨ (Ros.mk (setOf ps) 0).len ≠ ps.length
                · rw [if_pos h3]
                · rw [if_neg h3] at hc; exact absurd rfl hc
              have h3 : openF ps = false := by
                cases h : openF ps with
                | false => rfl
                | true =>
                  simp only [openF, Bool.and_eq_true, decide_eq_true_eq] at h
                  rw [fchk, if_neg (by simp [h1]), if_neg (by simp [h2]), if_neg (by rintro (h' | h'); rw [h.2] at h'; cases h'; exact h' h.1)] at hf
                  cases hf
              simp [h2]
              refine callT_eq [] hop ?_
              simp [h3, hf]
            · have hf : fchk idleI ps a b = 4 := by
                have h4 : pchk a b = 4 := by
                  by_cases h4 : a < 1 ∨ 64 < a ∨ b < 1 ∨ 6 < b
                  · unfold pchk; rw [if_pos h4]
                  · exact absurd (by unfold pchk; rw [if_neg h4]) h2
                rw [fchk, if_neg (by simp [h1]), if_pos h2, h4]
              simp [h2, hf]
          · have hN := WNew_no idleI hI1 0 h1
            have hf : fchk idleI ps a b = chkV idleI := by rw [fchk, if_pos h1]
            simp only [fdGame, u64c, i64c, hp40] at hF hN
            refine callT_eq [] hF ?_
            simp [i64c, i64v, u32v, hp40]
            refine callT_eq [] hN ?_
            simp [h1, hf]
    · have l0' : ¬ (I.length : Int) = 0 := by omega
      by_cases l5 : 5 < I.length
      · have l5' : 5 < (I.length : Int) := by omega
        simp [i64c, u64c, l0, l0', l5, l5', h40, h40', htk]
        refine ⟨by omega, ?_⟩
        intro v9
        refine ⟨Nat, fun j => j = 0, fun j => ⟨[(1, .isl (ps.map i64c) ps.length), (2, i64c a), (3, i64c b), (9, .at 9 v9 0), (44, i64c 0), (45, i64c 0)],
          [(4, v4, ⟨0, [.isl (rowFn I) I.length]⟩), (9, v9, ⟨0, [.v (.slice none 0 0), u64c 0, .isl (ps.map i64c) ps.length, i64c a, i64c b]⟩)]⟩, fun j => 0, ?_, ?_⟩
        · exact SLx.fin _ ⟨0, by simp, rfl⟩ (by simp [i64c, hp40]) (by simp [i64c, u64c, hp40])
        intro j hj
        simp [i64c, i64v, u64c, hp40]
        have hgo := Good_T a b
        have hop := Open22_T ps (by omega)
        have hI1 : (([] : List Fn)).length ≤ 1000000 := by simp
        simp only [i64c, hp40] at hgo hop
        by_cases hc : fchk ([] : List Fn) ps a b = 0
        · have hF := FNew_T ([] : List Fn) hI1 0 ps (by omega) a b hc
          have h1 : chkV ([] : List Fn) = 0 := Classical.byContradiction fun h => by simp [fchk, h] at hc
          have h2 : pchk a b = 0 := Classical.byContradiction fun h => by simp [fchk, h1, h] at hc
          have h3 : openF ps = true := by
            cases h : openF ps with
            | true => rfl
            | false =>
              simp only [openF, Bool.and_eq_false_iff, decide_eq_false_iff_not] at h
              rw [fchk, if_neg (by simp [h1]), if_neg (by simp [h2]), if_pos (by rcases h with h | h; exact .inr h; exact .inl h)] at hc
              cases hc
          have hN := WNew_T ([] : List Fn) hI1 0 h1
          simp only [fdGame, u64c, i64c, rowFn, List.map_nil, List.flatten_nil, List.length_nil, hp40] at hF hN
          rw [h2] at hgo
          rw [h3] at hop
          refine callT.pre (fn_of hF) (CLx.weak 0 (.agg [.isl [] 0, .v (.int .u64 0), .isl (ps.map i64c) ps.length, .v (.int .i64 a), .v (.int .i64 b)]) rfl (fun E y h => by have h2 := RV_nz _ _ h; simpa [fdGame, u64c, i64c, hp40] using h2) (CLx.done ?_))
          simp [hp40]
          refine callT_exa [(2000, 2000), (2001, 2001), (2002, 2002), (2003, 2003), (2004, 2004), (2005, 2005), (2006, 2006)] hF ?_
          simp [i64c, i64v, u32v, hp40]
          intro v V u
          refine callT.pre (fn_of hN) (CLx.weak 0 (.agg [.isl [] 0]) rfl RV_nilA (CLx.done ?_))
          simp
          refine callT_exa [(2001, 2101), (2002, 2102), (2003, 2103), (2004, 2104), (2005, 2105), (2006, 2106)] hN ?_
          simp [i64c, i64v, u32v, hp40]
          intro V2 u2
          refine callT_eq [] hgo ?_
          simp
          refine callT_eq [] hop ?_
          simp
        · have hF := FNew_no ([] : List Fn) hI1 0 ps (by omega) a b hc
          by_cases h1 : chkV ([] : List Fn) = 0
          · have hN := WNew_T ([] : List Fn) hI1 0 h1
            simp only [fdGame, u64c, i64c, rowFn, List.map_nil, List.flatten_nil, List.length_nil, hp40] at hF hN
            refine callT.pre (fn_of hF) (CLx.weak 0 (.agg [.isl [] 0, .v (.int .u64 0), .isl (ps.map i64c) ps.length, .v (.int .i64 a), .v (.int .i64 b)]) rfl (fun E y h => by have h2 := RV_nz _ _ h; simpa [fdGame, u64c, i64c, hp40] using h2) (CLx.done ?_))
            simp [hp40]
            refine callT_eq [] hF ?_
            simp [i64c, i64v, u32v, hp40]
            refine callT.pre (fn_of hN) (CLx.weak 0 (.agg [.isl [] 0]) rfl RV_nilA (CLx.done ?_))
            simp
            refine callT_exa [(2001, 2101), (2002, 2102), (2003, 2103), (2004, 2104), (2005, 2105), (2006, 2106)] hN ?_
            simp [i64c, i64v, u32v, hp40]
            intro V2 u2
            refine callT_eq [] hgo ?_
            by_cases h2 : pchk a b = 0
            · have hf : fchk ([] : List Fn) ps a b = 13 := by
                rw [fchk, if_neg (by simp [h1]), if_neg (by simp [h2])] at hc ⊢
                by_cases h3 : (Ros.mk (setOf ps) 0).has 0 = false ∨ (Ros.mk (setOf ps) 0).len ≠ ps.length
                · rw [if_pos h3]
                · rw [if_neg h3] at hc; exact absurd rfl hc
              have h3 : openF ps = false := by
                cases h : openF ps with
                | false => rfl
                | true =>
                  simp only [openF, Bool.and_eq_true, decide_eq_true_eq] at h
                  rw [fchk, if_neg (by simp [h1]), if_neg (by simp [h2]), if_neg (by rintro (h' | h'); rw [h.2] at h'; cases h'; exact h' h.1)] at hf
                  cases hf
              simp [h2]
              refine callT_eq [] hop ?_
              simp [h3, hf]
            · have hf : fchk ([] : List Fn) ps a b = 4 := by
                have h4 : pchk a b = 4 := by
                  by_cases h4 : a < 1 ∨ 64 < a ∨ b < 1 ∨ 6 < b
                  · unfold pchk; rw [if_pos h4]
                  · exact absurd (by unfold pchk; rw [if_neg h4]) h2
                rw [fchk, if_neg (by simp [h1]), if_pos h2, h4]
              simp [h2, hf]
          · have hN := WNew_no ([] : List Fn) hI1 0 h1
            have hf : fchk ([] : List Fn) ps a b = chkV ([] : List Fn) := by rw [fchk, if_pos h1]
            simp only [fdGame, u64c, i64c, rowFn, List.map_nil, List.flatten_nil, List.length_nil, hp40] at hF hN
            refine callT.pre (fn_of hF) (CLx.weak 0 (.agg [.isl [] 0, .v (.int .u64 0), .isl (ps.map i64c) ps.length, .v (.int .i64 a), .v (.int .i64 b)]) rfl (fun E y h => by have h2 := RV_nz _ _ h; simpa [fdGame, u64c, i64c, hp40] using h2) (CLx.done ?_))
            simp [hp40]
            refine callT_eq [] hF ?_
            simp [i64c, i64v, u32v, hp40]
            refine callT.pre (fn_of hN) (CLx.weak 0 (.agg [.isl [] 0]) rfl RV_nilA (CLx.done ?_))
            simp
            refine callT_eq [] hN ?_
            simp [h1, hf]
      · have l5' : ¬ 5 < (I.length : Int) := by omega
        simp [i64c, u64c, l0, l0', l5, l5', h40, h40', htk]
        refine ⟨by omega, ?_⟩
        intro v9
        refine ⟨Nat, fun j => j ≤ (I).length, fun j => ⟨[(1, .isl (ps.map i64c) ps.length), (2, i64c a), (3, i64c b), (9, .at 9 v9 0), (44, i64c (I).length), (45, i64c j)],
          [(4, v4, ⟨0, [.isl (rowFn I) I.length]⟩), (9, v9, ⟨0, [.isl (rowFn I) (I).length, u64c 0, .isl (ps.map i64c) ps.length, i64c a, i64c b]⟩)]⟩, fun j => (I).length - j, ?_, ?_⟩
        · exact SLx.fin _ ⟨0, by simp, rfl⟩ (by simp [i64c, hp40]) (by simp [i64c, u64c, hp40])
        intro j hj
        by_cases g : j < (I).length
        · have g' : (j : Int) < (I).length := by omega
          have ej : IntKind.i64.wrap ((j : Int) + 1) = ((j + 1 : Nat) : Int) := by rw [i64_id (by omega) (by omega)]; rfl
          have hat := rowFn_at (List.getElem?_eq_getElem g)
          generalize (I)[j] = f at hat
          simp only [i64v] at hat
          by_cases c1 : 60 < f.code.length
          · have c1' : 60 < (f.code.length : Int) := by omega
            simp [i64c, i64v, u64c, g, g', hat, c1, c1', hp40]
            have hgo := Good_T a b
            have hop := Open22_T ps (by omega)
            have hI1 : (([] : List Fn)).length ≤ 1000000 := by simp
            simp only [i64c, hp40] at hgo hop
            by_cases hc : fchk ([] : List Fn) ps a b = 0
            · have hF := FNew_T ([] : List Fn) hI1 0 ps (by omega) a b hc
              have h1 : chkV ([] : List Fn) = 0 := Classical.byContradiction fun h => by simp [fchk, h] at hc
              have h2 : pchk a b = 0 := Classical.byContradiction fun h => by simp [fchk, h1, h] at hc
              have h3 : openF ps = true := by
                cases h : openF ps with
                | true => rfl
                | false =>
                  simp only [openF, Bool.and_eq_false_iff, decide_eq_false_iff_not] at h
                  rw [fchk, if_neg (by simp [h1]), if_neg (by simp [h2]), if_pos (by rcases h with h | h; exact .inr h; exact .inl h)] at hc
                  cases hc
              have hN := WNew_T ([] : List Fn) hI1 0 h1
              simp only [fdGame, u64c, i64c, rowFn, List.map_nil, List.flatten_nil, List.length_nil, hp40] at hF hN
              rw [h2] at hgo
              rw [h3] at hop
              refine callT.pre (fn_of hF) (CLx.weak 0 (.agg [.isl [] 0, .v (.int .u64 0), .isl (ps.map i64c) ps.length, .v (.int .i64 a), .v (.int .i64 b)]) rfl (fun E y h => by have h2 := RV_nz _ _ h; simpa [fdGame, u64c, i64c, hp40] using h2) (CLx.done ?_))
              simp [hp40]
              refine callT_exa [(2000, 2000), (2001, 2001), (2002, 2002), (2003, 2003), (2004, 2004), (2005, 2005), (2006, 2006)] hF ?_
              simp [i64c, i64v, u32v, hp40]
              intro v V u
              refine callT.pre (fn_of hN) (CLx.weak 0 (.agg [.isl [] 0]) rfl RV_nilA (CLx.done ?_))
              simp
              refine callT_exa [(2001, 2101), (2002, 2102), (2003, 2103), (2004, 2104), (2005, 2105), (2006, 2106)] hN ?_
              simp [i64c, i64v, u32v, hp40]
              intro V2 u2
              refine callT_eq [] hgo ?_
              simp
              refine callT_eq [] hop ?_
              simp
            · have hF := FNew_no ([] : List Fn) hI1 0 ps (by omega) a b hc
              by_cases h1 : chkV ([] : List Fn) = 0
              · have hN := WNew_T ([] : List Fn) hI1 0 h1
                simp only [fdGame, u64c, i64c, rowFn, List.map_nil, List.flatten_nil, List.length_nil, hp40] at hF hN
                refine callT.pre (fn_of hF) (CLx.weak 0 (.agg [.isl [] 0, .v (.int .u64 0), .isl (ps.map i64c) ps.length, .v (.int .i64 a), .v (.int .i64 b)]) rfl (fun E y h => by have h2 := RV_nz _ _ h; simpa [fdGame, u64c, i64c, hp40] using h2) (CLx.done ?_))
                simp [hp40]
                refine callT_eq [] hF ?_
                simp [i64c, i64v, u32v, hp40]
                refine callT.pre (fn_of hN) (CLx.weak 0 (.agg [.isl [] 0]) rfl RV_nilA (CLx.done ?_))
                simp
                refine callT_exa [(2001, 2101), (2002, 2102), (2003, 2103), (2004, 2104), (2005, 2105), (2006, 2106)] hN ?_
                simp [i64c, i64v, u32v, hp40]
                intro V2 u2
                refine callT_eq [] hgo ?_
                by_cases h2 : pchk a b = 0
                · have hf : fchk ([] : List Fn) ps a b = 13 := by
                    rw [fchk, if_neg (by simp [h1]), if_neg (by simp [h2])] at hc ⊢
                    by_cases h3 : (Ros.mk (setOf ps) 0).has 0 = false ∨ (Ros.mk (setOf ps) 0).len ≠ ps.length
                    · rw [if_pos h3]
                    · rw [if_neg h3] at hc; exact absurd rfl hc
                  have h3 : openF ps = false := by
                    cases h : openF ps with
                    | false => rfl
                    | true =>
                      simp only [openF, Bool.and_eq_true, decide_eq_true_eq] at h
                      rw [fchk, if_neg (by simp [h1]), if_neg (by simp [h2]), if_neg (by rintro (h' | h'); rw [h.2] at h'; cases h'; exact h' h.1)] at hf
                      cases hf
                  simp [h2]
                  refine callT_eq [] hop ?_
                  simp [h3, hf]
                · have hf : fchk ([] : List Fn) ps a b = 4 := by
                    have h4 : pchk a b = 4 := by
                      by_cases h4 : a < 1 ∨ 64 < a ∨ b < 1 ∨ 6 < b
                      · unfold pchk; rw [if_pos h4]
                      · exact absurd (by unfold pchk; rw [if_neg h4]) h2
                    rw [fchk, if_neg (by simp [h1]), if_pos h2, h4]
                  simp [h2, hf]
              · have hN := WNew_no ([] : List Fn) hI1 0 h1
                have hf : fchk ([] : List Fn) ps a b = chkV ([] : List Fn) := by rw [fchk, if_pos h1]
                simp only [fdGame, u64c, i64c, rowFn, List.map_nil, List.flatten_nil, List.length_nil, hp40] at hF hN
                refine callT.pre (fn_of hF) (CLx.weak 0 (.agg [.isl [] 0, .v (.int .u64 0), .isl (ps.map i64c) ps.length, .v (.int .i64 a), .v (.int .i64 b)]) rfl (fun E y h => by have h2 := RV_nz _ _ h; simpa [fdGame, u64c, i64c, hp40] using h2) (CLx.done ?_))
                simp [hp40]
                refine callT_eq [] hF ?_
                simp [i64c, i64v, u32v, hp40]
                refine callT.pre (fn_of hN) (CLx.weak 0 (.agg [.isl [] 0]) rfl RV_nilA (CLx.done ?_))
                simp
                refine callT_eq [] hN ?_
                simp [h1, hf]
          · have c1' : ¬ 60 < (f.code.length : Int) := by omega
            by_cases c2 : 16 < f.args
            · simp [i64c, i64v, u64c, g, g', hat, c1, c1', c2, hp40]
              have hgo := Good_T a b
              have hop := Open22_T ps (by omega)
              have hI1 : (([] : List Fn)).length ≤ 1000000 := by simp
              simp only [i64c, hp40] at hgo hop
              by_cases hc : fchk ([] : List Fn) ps a b = 0
              · have hF := FNew_T ([] : List Fn) hI1 0 ps (by omega) a b hc
                have h1 : chkV ([] : List Fn) = 0 := Classical.byContradiction fun h => by simp [fchk, h] at hc
                have h2 : pchk a b = 0 := Classical.byContradiction fun h => by simp [fchk, h1, h] at hc
                have h3 : openF ps = true := by
                  cases h : openF ps with
                  | true => rfl
                  | false =>
                    simp only [openF, Bool.and_eq_false_iff, decide_eq_false_iff_not] at h
                    rw [fchk, if_neg (by simp [h1]), if_neg (by simp [h2]), if_pos (by rcases h with h | h; exact .inr h; exact .inl h)] at hc
                    cases hc
                have hN := WNew_T ([] : List Fn) hI1 0 h1
                simp only [fdGame, u64c, i64c, rowFn, List.map_nil, List.flatten_nil, List.length_nil, hp40] at hF hN
                rw [h2] at hgo
                rw [h3] at hop
                refine callT.pre (fn_of hF) (CLx.weak 0 (.agg [.isl [] 0, .v (.int .u64 0), .isl (ps.map i64c) ps.length, .v (.int .i64 a), .v (.int .i64 b)]) rfl (fun E y h => by have h2 := RV_nz _ _ h; simpa [fdGame, u64c, i64c, hp40] using h2) (CLx.done ?_))
                simp [hp40]
                refine callT_exa [(2000, 2000), (2001, 2001), (2002, 2002), (2003, 2003), (2004, 2004), (2005, 2005), (2006, 2006)] hF ?_
                simp [i64c, i64v, u32v, hp40]
                intro v V u
                refine callT.pre (fn_of hN) (CLx.weak 0 (.agg [.isl [] 0]) rfl RV_nilA (CLx.done ?_))
                simp
                refine callT_exa [(2001, 2101), (2002, 2102), (2003, 2103), (2004, 2104), (2005, 2105), (2006, 2106)] hN ?_
                simp [i64c, i64v, u32v, hp40]
                intro V2 u2
                refine callT_eq [] hgo ?_
                simp
                refine callT_eq [] hop ?_
                simp
              · have hF := FNew_no ([] : List Fn) hI1 0 ps (by omega) a b hc
                by_cases h1 : chkV ([] : List Fn) = 0
                · have hN := WNew_T ([] : List Fn) hI1 0 h1
                  simp only [fdGame, u64c, i64c, rowFn, List.map_nil, List.flatten_nil, List.length_nil, hp40] at hF hN
                  refine callT.pre (fn_of hF) (CLx.weak 0 (.agg [.isl [] 0, .v (.int .u64 0), .isl (ps.map i64c) ps.length, .v (.int .i64 a), .v (.int .i64 b)]) rfl (fun E y h => by have h2 := RV_nz _ _ h; simpa [fdGame, u64c, i64c, hp40] using h2) (CLx.done ?_))
                  simp [hp40]
                  refine callT_eq [] hF ?_
                  simp [i64c, i64v, u32v, hp40]
                  refine callT.pre (fn_of hN) (CLx.weak 0 (.agg [.isl [] 0]) rfl RV_nilA (CLx.done ?_))
                  simp
                  refine callT_exa [(2001, 2101), (2002, 2102), (2003, 2103), (2004, 2104), (2005, 2105), (2006, 2106)] hN ?_
                  simp [i64c, i64v, u32v, hp40]
                  intro V2 u2
                  refine callT_eq [] hgo ?_
                  by_cases h2 : pchk a b = 0
                  · have hf : fchk ([] : List Fn) ps a b = 13 := by
                      rw [fchk, if_neg (by simp [h1]), if_neg (by simp [h2])] at hc ⊢
                      by_cases h3 : (Ros.mk (setOf ps) 0).has 0 = false ∨ (Ros.mk (setOf ps) 0).len ≠ ps.length
                      · rw [if_pos h3]
                      · rw [if_neg h3] at hc; exact absurd rfl hc
                    have h3 : openF ps = false := by
                      cases h : openF ps with
                      | false => rfl
                      | true =>
                        simp only [openF, Bool.and_eq_true, decide_eq_true_eq] at h
                        rw [fchk, if_neg (by simp [h1]), if_neg (by simp [h2]), if_neg (by rintro (h' | h'); rw [h.2] at h'; cases h'; exact h' h.1)] at hf
                        cases hf
                    simp [h2]
                    refine callT_eq [] hop ?_
                    simp [h3, hf]
                  · have hf : fchk ([] : List Fn) ps a b = 4 := by
                      have h4 : pchk a b = 4 := by
                        by_cases h4 : a < 1 ∨ 64 < a ∨ b < 1 ∨ 6 < b
                        · unfold pchk; rw [if_pos h4]
                        · exact absurd (by unfold pchk; rw [if_neg h4]) h2
                      rw [fchk, if_neg (by simp [h1]), if_pos h2, h4]
                    simp [h2, hf]
                · have hN := WNew_no ([] : List Fn) hI1 0 h1
                  have hf : fchk ([] : List Fn) ps a b = chkV ([] : List Fn) := by rw [fchk, if_pos h1]
                  simp only [fdGame, u64c, i64c, rowFn, List.map_nil, List.flatten_nil, List.length_nil, hp40] at hF hN
                  refine callT.pre (fn_of hF) (CLx.weak 0 (.agg [.isl [] 0, .v (.int .u64 0), .isl (ps.map i64c) ps.length, .v (.int .i64 a), .v (.int .i64 b)]) rfl (fun E y h => by have h2 := RV_nz _ _ h; simpa [fdGame, u64c, i64c, hp40] using h2) (CLx.done ?_))
                  simp [hp40]
                  refine callT_eq [] hF ?_
                  simp [i64c, i64v, u32v, hp40]
                  refine callT.pre (fn_of hN) (CLx.weak 0 (.agg [.isl [] 0]) rfl RV_nilA (CLx.done ?_))
                  simp
                  refine callT_eq [] hN ?_
                  simp [h1, hf]
            · simp [i64c, i64v, u64c, g, g', hat, c1, c1', c2, hp40]
              exact SLx.again (j + 1) (by omega) (by omega) (by simp [i64c, ej, hp40]) (by simp [i64c, u64c, hp40])
        · have hjl : j = (I).length := by omega
          subst hjl
          simp [i64c, i64v, u64c, hp40]
          have hgo := Good_T a b
          have hop := Open22_T ps (by omega)
          have hI1 : (I).length ≤ 1000000 := by omega
          simp only [i64c, hp40] at hgo hop
          by_cases hc : fchk I ps a b = 0
          · have hF := FNew_T I hI1 0 ps (by omega) a b hc
            have h1 : chkV I = 0 := Classical.byContradiction fun h => by simp [fchk, h] at hc
            have h2 : pchk a b = 0 := Classical.byContradiction fun h => by simp [fchk, h1, h] at hc
            have h3 : openF ps = true := by
              cases h : openF ps with
              | true => rfl
              | false =>
                simp only [openF, Bool.and_eq_false_iff, decide_eq_false_iff_not] at h
                rw [fchk, if_neg (by simp [h1]), if_neg (by simp [h2]), if_pos (by rcases h with h | h; exact .inr h; exact .inl h)] at hc
                cases hc
            have hN := WNew_T I hI1 0 h1
            simp only [fdGame, u64c, i64c, hp40] at hF hN
            rw [h2] at hgo
            rw [h3] at hop
            refine callT_exa [(2000, 2000), (2001, 2001), (2002, 2002), (2003, 2003), (2004, 2004), (2005, 2005), (2006, 2006)] hF ?_
            simp [i64c, i64v, u32v, hp40]
            intro v V u
            refine callT_exa [(2001, 2101), (2002, 2102), (2003, 2103), (2004, 2104), (2005, 2105), (2006, 2106)] hN ?_
            simp [i64c, i64v, u32v, hp40]
            intro V2 u2
            refine callT_eq [] hgo ?_
            simp
            refine callT_eq [] hop ?_
            simp
          · have hF := FNew_no I hI1 0 ps (by omega) a b hc
            by_cases h1 : chkV I = 0
            · have hN := WNew_T I hI1 0 h1
              simp only [fdGame, u64c, i64c, hp40] at hF hN
              refine callT_eq [] hF ?_
              simp [i64c, i64v, u32v, hp40]
              refine callT_exa [(2001, 2101), (2002, 2102), (2003, 2103), (2004, 2104), (2005, 2105), (2006, 2106)] hN ?_
              simp [i64c, i64v, u32v, hp40]
              intro V2 u2
              refine callT_eq [] hgo ?_
              by_cases h2 : pchk a b = 0
              · have hf : fchk I ps a b = 13 := by
                  rw [fchk, if_neg (by simp [h1]), if_neg (by simp [h2])] at hc ⊢
                  by_cases h3 : (Ros.mk (setOf ps) 0).has 0 = false ∨ (Ros.mk (setOf ps) 0).len ≠ ps.length
                  · rw [if_pos h3]
                  · rw [if_neg h3] at hc; exact absurd rfl hc
                have h3 : openF ps = false := by
                  cases h : openF ps with
                  | false => rfl
                  | true =>
                    simp only [openF, Bool.and_eq_true, decide_eq_true_eq] at h
                    rw [fchk, if_neg (by simp [h1]), if_neg (by simp [h2]), if_neg (by rintro (h' | h'); rw [h.2] at h'; cases h'; exact h' h.1)] at hf
                    cases hf
                simp [h2]
                refine callT_eq [] hop ?_
                simp [h3, hf]
              · have hf : fchk I ps a b = 4 := by
                  have h4 : pchk a b = 4 := by
                    by_cases h4 : a < 1 ∨ 64 < a ∨ b < 1 ∨ 6 < b
                    · unfold pchk; rw [if_pos h4]
                    · exact absurd (by unfold pchk; rw [if_neg h4]) h2
                  rw [fchk, if_neg (by simp [h1]), if_pos h2, h4]
                simp [h2, hf]
            · have hN := WNew_no I hI1 0 h1
              have hf : fchk I ps a b = chkV I := by rw [fchk, if_pos h1]
              simp only [fdGame, u64c, i64c, hp40] at hF hN
              refine callT_eq [] hF ?_
              simp [i64c, i64v, u32v, hp40]
              refine callT_eq [] hN ?_
              simp [h1, hf]
  · have h40' : ¬ 40 < (qs.length : Int) := by omega
    have hpq : ps = qs := by rw [hps]; exact List.take_of_length_le (by omega)
    rw [← hpq] at h40 h40' ⊢
    by_cases l0 : I.length = 0
    · have l0c : (I.length : Int) = 0 := by omega
      simp [i64c, u64c, l0, l0c, h40, h40']
      intro v9
      refine callT_eq [] Idle_T ?_
      simp
      have hid : idleI.length = 2 := rfl
      refine ⟨Nat, fun j => j ≤ (idleI).length, fun j => ⟨[(1, .isl (ps.map i64c) ps.length), (2, i64c a), (3, i64c b), (9, .at 9 v9 0), (44, i64c (idleI).length), (45, i64c j)],
        [(4, v4, ⟨0, [.isl (rowFn I) I.length]⟩), (9, v9, ⟨0, [.isl (rowFn idleI) (idleI).length, u64c 0, .isl (ps.map i64c) ps.length, i64c a, i64c b]⟩)]⟩, fun j => (idleI).length - j, ?_, ?_⟩
      · exact SLx.fin _ ⟨0, by simp, rfl⟩ (by simp [i64c, hid, l0]) (by simp [i64c, u64c, hid, l0])
      intro j hj
      by_cases g : j < (idleI).length
      · have g' : (j : Int) < (idleI).length := by omega
        have ej : IntKind.i64.wrap ((j : Int) + 1) = ((j + 1 : Nat) : Int) := by rw [i64_id (by omega) (by omega)]; rfl
        have hat := rowFn_at (List.getElem?_eq_getElem g)
        generalize (idleI)[j] = f at hat
        simp only [i64v] at hat
        by_cases c1 : 60 < f.code.length
        · have c1' : 60 < (f.code.length : Int) := by omega
          simp [i64c, i64v, u64c, g, g', hat, c1, c1']
          have hgo := Good_T a b
          have hop := Open22_T ps (by omega)
          have hI1 : (([] : List Fn)).length ≤ 1000000 := by simp
          simp only [i64c] at hgo hop
          by_cases hc : fchk ([] : List Fn) ps a b = 0
          · have hF := FNew_T ([] : List Fn) hI1 0 ps (by omega) a b hc
            have h1 : chkV ([] : List Fn) = 0 := Classical.byContradiction fun h => by simp [fchk, h] at hc
            have h2 : pchk a b = 0 := Classical.byContradiction fun h => by simp [fchk, h1, h] at hc
            have h3 : openF ps = true := by
              cases h : openF ps with
              | true => rfl
              | false =>
                simp only [openF, Bool.and_eq_false_iff, decide_eq_false_iff_not] at h
                rw [fchk, if_neg (by simp [h1]), if_neg (by simp [h2]), if_pos (by rcases h with h | h; exact .inr h; exact .inl h)] at hc
                cases hc
            have hN := WNew_T ([] : List Fn) hI1 0 h1
            simp only [fdGame, u64c, i64c, rowFn, List.map_nil, List.flatten_nil, List.length_nil] at hF hN
            rw [h2] at hgo
            rw [h3] at hop
            refine callT.pre (fn_of hF) (CLx.weak 0 (.agg [.isl [] 0, .v (.int .u64 0), .isl (ps.map i64c) ps.length, .v (.int .i64 a), .v (.int .i64 b)]) rfl (fun E y h => by have h2 := RV_nz _ _ h; simpa [fdGame, u64c, i64c] using h2) (CLx.done ?_))
            simp
            refine callT_exa [(2000, 2000), (2001, 2001), (2002, 2002), (2003, 2003), (2004, 2004), (2005, 2005), (2006, 2006)] hF ?_
            simp [i64c, i64v, u32v]
            intro v V u
            refine callT.pre (fn_of hN) (CLx.weak 0 (.agg [.isl [] 0]) rfl RV_nilA (CLx.done ?_))
            simp
            refine callT_exa [(2001, 2101), (2002, 2102), (2003, 2103), (2004, 2104), (2005, 2105), (2006, 2106)] hN ?_
            simp [i64c, i64v, u32v]
            intro V2 u2
            refine callT_eq [] hgo ?_
            simp
            refine callT_eq [] hop ?_
            simp
          · have hF := FNew_no ([] : List Fn) hI1 0 ps (by omega) a b hc
            by_cases h1 : chkV ([] : List Fn) = 0
            · have hN := WNew_T ([] : List Fn) hI1 0 h1
              simp only [fdGame, u64c, i64c, rowFn, List.map_nil, List.flatten_nil, List.length_nil] at hF hN
              refine callT.pre (fn_of hF) (CLx.weak 0 (.agg [.isl [] 0, .v (.int .u64 0), .isl (ps.map i64c) ps.length, .v (.int .i64 a), .v (.int .i64 b)]) rfl (fun E y h => by have h2 := RV_nz _ _ h; simpa [fdGame, u64c, i64c] using h2) (CLx.done ?_))
              simp
              refine callT_eq [] hF ?_
              simp [i64c, i64v, u32v]
              refine callT.pre (fn_of hN) (CLx.weak 0 (.agg [.isl [] 0]) rfl RV_nilA (CLx.done ?_))
              simp
              refine callT_exa [(2001, 2101), (2002, 2102), (2003, 2103), (2004, 2104), (2005, 2105), (2006, 2106)] hN ?_
              simp [i64c, i64v, u32v]
              intro V2 u2
              refine callT_eq [] hgo ?_
              by_cases h2 : pchk a b = 0
              · have hf : fchk ([] : List Fn) ps a b = 13 := by
                  rw [fchk, if_neg (by simp [h1]), if_neg (by simp [h2])] at hc ⊢
                  by_cases h3 : (Ros.mk (setOf ps) 0).has 0 = false ∨ (Ros.mk (setOf ps) 0).len ≠ ps.length
                  · rw [if_pos h3]
                  · rw [if_neg h3] at hc; exact absurd rfl hc
                have h3 : openF ps = false := by
                  cases h : openF ps with
                  | false => rfl
                  | true =>
                    simp only [openF, Bool.and_eq_true, decide_eq_true_eq] at h
                    rw [fchk, if_neg (by simp [h1]), if_neg (by simp [h2]), if_neg (by rintro (h' | h'); rw [h.2] at h'; cases h'; exact h' h.1)] at hf
                    cases hf
                simp [h2]
                refine callT_eq [] hop ?_
                simp [h3, hf]
              · have hf : fchk ([] : List Fn) ps a b = 4 := by
                  have h4 : pchk a b = 4 := by
                    by_cases h4 : a < 1 ∨ 64 < a ∨ b < 1 ∨ 6 < b
                    · unfold pchk; rw [if_pos h4]
                    · exact absurd (by unfold pchk; rw [if_neg h4]) h2
                  rw [fchk, if_neg (by simp [h1]), if_pos h2, h4]
                simp [h2, hf]
            · have hN := WNew_no ([] : List Fn) hI1 0 h1
              have hf : fchk ([] : List Fn) ps a b = chkV ([] : List Fn) := by rw [fchk, if_pos h1]
              simp only [fdGame, u64c, i64c, rowFn, List.map_nil, List.flatten_nil, List.length_nil] at hF hN
              refine callT.pre (fn_of hF) (CLx.weak 0 (.agg [.isl [] 0, .v (.int .u64 0), .isl (ps.map i64c) ps.length, .v (.int .i64 a), .v (.int .i64 b)]) rfl (fun E y h => by have h2 := RV_nz _ _ h; simpa [fdGame, u64c, i64c] using h2) (CLx.done ?_))
              simp
              refine callT_eq [] hF ?_
              simp [i64c, i64v, u32v]
              refine callT.pre (fn_of hN) (CLx.weak 0 (.agg [.isl [] 0]) rfl RV_nilA (CLx.done ?_))
              simp
              refine callT_eq [] hN ?_
              simp [h1, hf]
        · have c1' : ¬ 60 < (f.code.length : Int) := by omega
          by_cases c2 : 16 < f.args
          · simp [i64c, i64v, u64c, g, g', hat, c1, c1', c2]
            have hgo := Good_T a b
            have hop := Open22_T ps (by omega)
            have hI1 : (([] : List Fn)).length ≤ 1000000 := by simp
            simp only [i64c] at hgo hop
            by_cases hc : fchk ([] : List Fn) ps a b = 0
            · have hF := FNew_T ([] : List Fn) hI1 0 ps (by omega) a b hc
              have h1 : chkV ([] : List Fn) = 0 := Classical.byContradiction fun h => by simp [fchk, h] at hc
              have h2 : pchk a b = 0 := Classical.byContradiction fun h => by simp [fchk, h1, h] at hc
              have h3 : openF ps = true := by
                cases h : openF ps with
                | true => rfl
                | false =>
                  simp only [openF, Bool.and_eq_false_iff, decide_eq_false_iff_not] at h
                  rw [fchk, if_neg (by simp [h1]), if_neg (by simp [h2]), if_pos (by rcases h with h | h; exact .inr h; exact .inl h)] at hc
                  cases hc
              have hN := WNew_T ([] : List Fn) hI1 0 h1
              simp only [fdGame, u64c, i64c, rowFn, List.map_nil, List.flatten_nil, List.length_nil] at hF hN
              rw [h2] at hgo
              rw [h3] at hop
              refine callT.pre (fn_of hF) (CLx.weak 0 (.agg [.isl [] 0, .v (.int .u64 0), .isl (ps.map i64c) ps.length, .v (.int .i64 a), .v (.int .i64 b)]) rfl (fun E y h => by have h2 := RV_nz _ _ h; simpa [fdGame, u64c, i64c] using h2) (CLx.done ?_))
              simp
              refine callT_exa [(2000, 2000), (2001, 2001), (2002, 2002), (2003, 2003), (2004, 2004), (2005, 2005), (2006, 2006)] hF ?_
              simp [i64c, i64v, u32v]
              intro v V u
              refine callT.pre (fn_of hN) (CLx.weak 0 (.agg [.isl [] 0]) rfl RV_nilA (CLx.done ?_))
              simp
              refine callT_exa [(2001, 2101), (2002, 2102), (2003, 2103), (2004, 2104), (2005, 2105), (2006, 2106)] hN ?_
              simp [i64c, i64v, u32v]
              intro V2 u2
              refine callT_eq [] hgo ?_
              simp
              refine callT_eq [] hop ?_
              simp
            · have hF := FNew_no ([] : List Fn) hI1 0 ps (by omega) a b hc
              by_cases h1 : chkV ([] : List Fn) = 0
              · have hN := WNew_T ([] : List Fn) hI1 0 h1
                simp only [fdGame, u64c, i64c, rowFn, List.map_nil, List.flatten_nil, List.length_nil] at hF hN
                refine callT.pre (fn_of hF) (CLx.weak 0 (.agg [.isl [] 0, .v (.int .u64 0), .isl (ps.map i64c) ps.length, .v (.int .i64 a), .v (.int .i64 b)]) rfl (fun E y h => by have h2 := RV_nz _ _ h; simpa [fdGame, u64c, i64c] using h2) (CLx.done ?_))
                simp
                refine callT_eq [] hF ?_
                simp [i64c, i64v, u32v]
                refine callT.pre (fn_of hN) (CLx.weak 0 (.agg [.isl [] 0]) rfl RV_nilA (CLx.done ?_))
                simp
                refine callT_exa [(2001, 2101), (2002, 2102), (2003, 2103), (2004, 2104), (2005, 2105), (2006, 2106)] hN ?_
                simp [i64c, i64v, u32v]
                intro V2 u2
                refine callT_eq [] hgo ?_
                by_cases h2 : pchk a b = 0
                · have hf : fchk ([] : List Fn) ps a b = 13 := by
                    rw [fchk, if_neg (by simp [h1]), if_neg (by simp [h2])] at hc ⊢
                    by_cases h3 : (Ros.mk (setOf ps) 0).has 0 = false ∨ (Ros.mk (setOf ps) 0).len ≠ ps.length
                    · rw [if_pos h3]
                    · rw [if_neg h3] at hc; exact absurd rfl hc
                  have h3 : openF ps = false := by
                    cases h : openF ps with
                    | false => rfl
                    | true =>
                      simp only [openF, Bool.and_eq_true, decide_eq_true_eq] at h
                      rw [fchk, if_neg (by simp [h1]), if_neg (by simp [h2]), if_neg (by rintro (h' | h'); rw [h.2] at h'; cases h'; exact h' h.1)] at hf
                      cases hf
                  simp [h2]
                  refine callT_eq [] hop ?_
                  simp [h3, hf]
                · have hf : fchk ([] : List Fn) ps a b = 4 := by
                    have h4 : pchk a b = 4 := by
                      by_cases h4 : a < 1 ∨ 64 < a ∨ b < 1 ∨ 6 < b
                      · unfold pchk; rw [if_pos h4]
                      · exact absurd (by unfold pchk; rw [if_neg h4]) h2
                    rw [fchk, if_neg (by simp [h1]), if_pos h2, h4]
                  simp [h2, hf]
              · have hN := WNew_no ([] : List Fn) hI1 0 h1
                have hf : fchk ([] : List Fn) ps a b = chkV ([] : List Fn) := by rw [fchk, if_pos h1]
                simp only [fdGame, u64c, i64c, rowFn, List.map_nil, List.flatten_nil, List.length_nil] at hF hN
                refine callT.pre (fn_of hF) (CLx.weak 0 (.agg [.isl [] 0, .v (.int .u64 0), .isl (ps.map i64c) ps.length, .v (.int .i64 a), .v (.int .i64 b)]) rfl (fun E y h => by have h2 := RV_nz _ _ h; simpa [fdGame, u64c, i64c] using h2) (CLx.done ?_))
                simp
                refine callT_eq [] hF ?_
                simp [i64c, i64v, u32v]
                refine callT.pre (fn_of hN) (CLx.weak 0 (.agg [.isl [] 0]) rfl RV_nilA (CLx.done ?_))
                simp
                refine callT_eq [] hN ?_
                simp [h1, hf]
          · simp [i64c, i64v, u64c, g, g', hat, c1, c1', c2]
            exact SLx.again (j + 1) (by omega) (by omega) (by simp [i64c, ej]) (by simp [i64c, u64c])
      · have hjl : j = (idleI).length := by omega
        subst hjl
        simp [i64c, i64v, u64c]
        have hgo := Good_T a b
        have hop := Open22_T ps (by omega)
        have hI1 : (idleI).length ≤ 1000000 := by simp [idleI]
        simp only [i64c] at hgo hop
        by_cases hc : fchk idleI ps a b = 0
        · have hF := FNew_T idleI hI1 0 ps (by omega) a b hc
          have h1 : chkV idleI = 0 := Classical.byContradiction fun h => by simp [fchk, h] at hc
          have h2 : pchk a b = 0 := Classical.byContradiction fun h => by simp [fchk, h1, h] at hc
          have h3 : openF ps = true := by
            cases h : openF ps with
            | true => rfl
            | false =>
              simp only [openF, Bool.and_eq_false_iff, decide_eq_false_iff_not] at h
              rw [fchk, if_neg (by simp [h1]), if_neg (by simp [h2]), if_pos (by rcases h with h | h; exact .inr h; exact .inl h)] at hc
              cases hc
          have hN := WNew_T idleI hI1 0 h1
          simp only [fdGame, u64c, i64c] at hF hN
          rw [h2] at hgo
          rw [h3] at hop
          refine callT_exa [(2000, 2000), (2001, 2001), (2002, 2002), (2003, 2003), (2004, 2004), (2005, 2005), (2006, 2006)] hF ?_
          simp [i64c, i64v, u32v]
          intro v V u
          refine callT_exa [(2001, 2101), (2002, 2102), (2003, 2103), (2004, 2104), (2005, 2105), (2006, 2106)] hN ?_
          simp [i64c, i64v, u32v]
          intro V2 u2
          refine callT_eq [] hgo ?_
          simp
          refine callT_eq [] hop ?_
          simp
        · have hF := FNew_no idleI hI1 0 ps (by omega) a b hc
          by_cases h1 : chkV idleI = 0
          · have hN := WNew_T idleI hI1 0 h1
            simp only [fdGame, u64c, i64c] at hF hN
            refine callT_eq [] hF ?_
            simp [i64c, i64v, u32v]
            refine callT_exa [(2001, 2101), (2002, 2102), (2003, 2103), (2004, 2104), (2005, 2105), (2006, 2106)] hN ?_
            simp [i64c, i64v, u32v]
            intro V2 u2
            refine callT_eq [] hgo ?_
            by_cases h2 : pchk a b = 0
            · have hf : fchk idleI ps a b = 13 := by
                rw [fchk, if_neg (by simp [h1]), if_neg (by simp [h2])] at hc ⊢
                by_cases h3 : (Ros.mk (setOf ps) 0).has 0 = false ∨ (Ros.mk (setOf ps) 0).len ≠ ps.length
                · rw [if_pos h3]
                · rw [if_neg h3] at hc; exact absurd rfl hc
              have h3 : openF ps = false := by
                cases h : openF ps with
                | false => rfl
                | true =>
                  simp only [openF, Bool.and_eq_true, decide_eq_true_eq] at h
                  rw [fchk, if_neg (by simp [h1]), if_neg (by simp [h2]), if_neg (by rintro (h' | h'); rw [h.2] at h'; cases h'; exact h' h.1)] at hf
                  cases hf
              simp [h2]
              refine callT_eq [] hop ?_
              simp [h3, hf]
            · have hf : fchk idleI ps a b = 4 := by
                have h4 : pchk a b = 4 := by
                  by_cases h4 : a < 1 ∨ 64 < a ∨ b < 1 ∨ 6 < b
                  · unfold pchk; rw [if_pos h4]
                  · exact absurd (by unfold pchk; rw [if_neg h4]) h2
                rw [fchk, if_neg (by simp [h1]), if_pos h2, h4]
              simp [h2, hf]
          · have hN := WNew_no idleI hI1 0 h1
            have hf : fchk idleI ps a b = chkV idleI := by rw [fchk, if_pos h1]
            simp only [fdGame, u64c, i64c] at hF hN
            refine callT_eq [] hF ?_
            simp [i64c, i64v, u32v]
            refine callT_eq [] hN ?_
            simp [h1, hf]
    · have l0' : ¬ (I.length : Int) = 0 := by omega
      by_cases l5 : 5 < I.length
      · have l5' : 5 < (I.length : Int) := by omega
        simp [i64c, u64c, l0, l0', l5, l5', h40, h40']
        intro v9
        refine ⟨Nat, fun j => j = 0, fun j => ⟨[(1, .isl (ps.map i64c) ps.length), (2, i64c a), (3, i64c b), (9, .at 9 v9 0), (44, i64c 0), (45, i64c 0)],
          [(4, v4, ⟨0, [.isl (rowFn I) I.length]⟩), (9, v9, ⟨0, [.v (.slice none 0 0), u64c 0, .isl (ps.map i64c) ps.length, i64c a, i64c b]⟩)]⟩, fun j => 0, ?_, ?_⟩
        · exact SLx.fin _ ⟨0, by simp, rfl⟩ (by simp [i64c]) (by simp [i64c, u64c])
        intro j hj
        simp [i64c, i64v, u64c]
        have hgo := Good_T a b
        have hop := Open22_T ps (by omega)
        have hI1 : (([] : List Fn)).length ≤ 1000000 := by simp
        simp only [i64c] at hgo hop
        by_cases hc : fchk ([] : List Fn) ps a b = 0
        · have hF := FNew_T ([] : List Fn) hI1 0 ps (by omega) a b hc
          have h1 : chkV ([] : List Fn) = 0 := Classical.byContradiction fun h => by simp [fchk, h] at hc
          have h2 : pchk a b = 0 := Classical.byContradiction fun h => by simp [fchk, h1, h] at hc
          have h3 : openF ps = true := by
            cases h : openF ps with
            | true => rfl
            | false =>
              simp only [openF, Bool.and_eq_false_iff, decide_eq_false_iff_not] at h
              rw [fchk, if_neg (by simp [h1]), if_neg (by simp [h2]), if_pos (by rcases h with h | h; exact .inr h; exact .inl h)] at hc
              cases hc
          have hN := WNew_T ([] : List Fn) hI1 0 h1
          simp only [fdGame, u64c, i64c, rowFn, List.map_nil, List.flatten_nil, List.length_nil] at hF hN
          rw [h2] at hgo
          rw [h3] at hop
          refine callT.pre (fn_of hF) (CLx.weak 0 (.agg [.isl [] 0, .v (.int .u64 0), .isl (ps.map i64c) ps.length, .v (.int .i64 a), .v (.int .i64 b)]) rfl (fun E y h => by have h2 := RV_nz _ _ h; simpa [fdGame, u64c, i64c] using h2) (CLx.done ?_))
          simp
          refine callT_exa [(2000, 2000), (2001, 2001), (2002, 2002), (2003, 2003), (2004, 2004), (2005, 2005), (2006, 2006)] hF ?_
          simp [i64c, i64v, u32v]
          intro v V u
          refine callT.pre (fn_of hN) (CLx.weak 0 (.agg [.isl [] 0]) rfl RV_nilA (CLx.done ?_))
          simp
          refine callT_exa [(2001, 2101), (2002, 2102), (2003, 2103), (2004, 2104), (2005, 2105), (2006, 2106)] hN ?_
          simp [i64c, i64v, u32v]
          intro V2 u2
          refine callT_eq [] hgo ?_
          simp
          refine callT_eq [] hop ?_
          simp
        · have hF := FNew_no ([] : List Fn) hI1 0 ps (by omega) a b hc
          by_cases h1 : chkV ([] : List Fn) = 0
          · have hN := WNew_T ([] : List Fn) hI1 0 h1
            simp only [fdGame, u64c, i64c, rowFn, List.map_nil, List.flatten_nil, List.length_nil] at hF hN
            refine callT.pre (fn_of hF) (CLx.weak 0 (.agg [.isl [] 0, .v (.int .u64 0), .isl (ps.map i64c) ps.length, .v (.int .i64 a), .v (.int .i64 b)]) rfl (fun E y h => by have h2 := RV_nz _ _ h; simpa [fdGame, u64c, i64c] using h2) (CLx.done ?_))
            simp
            refine callT_eq [] hF ?_
            simp [i64c, i64v, u32v]
            refine callT.pre (fn_of hN) (CLx.weak 0 (.agg [.isl [] 0]) rfl RV_nilA (CLx.done ?_))
            simp
            refine callT_exa [(2001, 2101), (2002, 2102), (2003, 2103), (2004, 2104), (2005, 2105), (2006, 2106)] hN ?_
            simp [i64c, i64v, u32v]
            intro V2 u2
            refine callT_eq [] hgo ?_
            by_cases h2 : pchk a b = 0
            · have hf : fchk ([] : List Fn) ps a b = 13 := by
                rw [fchk, if_neg (by simp [h1]), if_neg (by simp [h2])] at hc ⊢
                by_cases h3 : (Ros.mk (setOf ps) 0).has 0 = false ∨ (Ros.mk (setOf ps) 0).len ≠ ps.length
                · rw [if_pos h3]
                · rw [if_neg h3] at hc; exact absurd rfl hc
              have h3 : openF ps = false := by
                cases h : openF ps with
                | false => rfl
                | true =>
                  simp only [openF, Bool.and_eq_true, decide_eq_true_eq] at h
                  rw [fchk, if_neg (by simp [h1]), if_neg (by simp [h2]), if_neg (by rintro (h' | h'); rw [h.2] at h'; cases h'; exact h' h.1)] at hf
                  cases hf
              simp [h2]
              refine callT_eq [] hop ?_
              simp [h3, hf]
            · have hf : fchk ([] : List Fn) ps a b = 4 := by
                have h4 : pchk a b = 4 := by
                  by_cases h4 : a < 1 ∨ 64 < a ∨ b < 1 ∨ 6 < b
                  · unfold pchk; rw [if_pos h4]
                  · exact absurd (by unfold pchk; rw [if_neg h4]) h2
                rw [fchk, if_neg (by simp [h1]), if_pos h2, h4]
              simp [h2, hf]
          · have hN := WNew_no ([] : List Fn) hI1 0 h1
            have hf : fchk ([] : List Fn) ps a b = chkV ([] : List Fn) := by rw [fchk, if_pos h1]
            simp only [fdGame, u64c, i64c, rowFn, List.map_nil, List.flatten_nil, List.length_nil] at hF hN
            refine callT.pre (fn_of hF) (CLx.weak 0 (.agg [.isl [] 0, .v (.int .u64 0), .isl (ps.map i64c) ps.length, .v (.int .i64 a), .v (.int .i64 b)]) rfl (fun E y h => by have h2 := RV_nz _ _ h; simpa [fdGame, u64c, i64c] using h2) (CLx.done ?_))
            simp
            refine callT_eq [] hF ?_
            simp [i64c, i64v, u32v]
            refine callT.pre (fn_of hN) (CLx.weak 0 (.agg [.isl [] 0]) rfl RV_nilA (CLx.done ?_))
            simp
            refine callT_eq [] hN ?_
            simp [h1, hf]
      · have l5' : ¬ 5 < (I.length : Int) := by omega
        simp [i64c, u64c, l0, l0', l5, l5', h40, h40']
        intro v9
        refine ⟨Nat, fun j => j ≤ (I).length, fun j => ⟨[(1, .isl (ps.map i64c) ps.length), (2, i64c a), (3, i64c b), (9, .at 9 v9 0), (44, i64c (I).length), (45, i64c j)],
          [(4, v4, ⟨0, [.isl (rowFn I) I.length]⟩), (9, v9, ⟨0, [.isl (rowFn I) (I).length, u64c 0, .isl (ps.map i64c) ps.length, i64c a, i64c b]⟩)]⟩, fun j => (I).length - j, ?_, ?_⟩
        · exact SLx.fin _ ⟨0, by simp, rfl⟩ (by simp [i64c]) (by simp [i64c, u64c])
        intro j hj
        by_cases g : j < (I).length
        · have g' : (j : Int) < (I).length := by omega
          have ej : IntKind.i64.wrap ((j : Int) + 1) = ((j + 1 : Nat) : Int) := by rw [i64_id (by omega) (by omega)]; rfl
          have hat := rowFn_at (List.getElem?_eq_getElem g)
          generalize (I)[j] = f at hat
          simp only [i64v] at hat
          by_cases c1 : 60 < f.code.length
          · have c1' : 60 < (f.code.length : Int) := by omega
            simp [i64c, i64v, u64c, g, g', hat, c1, c1']
            have hgo := Good_T a b
            have hop := Open22_T ps (by omega)
            have hI1 : (([] : List Fn)).length ≤ 1000000 := by simp
            simp only [i64c] at hgo hop
            by_cases hc : fchk ([] : List Fn) ps a b = 0
            · have hF := FNew_T ([] : List Fn) hI1 0 ps (by omega) a b hc
              have h1 : chkV ([] : List Fn) = 0 := Classical.byContradiction fun h => by simp [fchk, h] at hc
              have h2 : pchk a b = 0 := Classical.byContradiction fun h => by simp [fchk, h1, h] at hc
              have h3 : openF ps = true := by
                cases h : openF ps with
                | true => rfl
                | false =>
                  simp only [openF, Bool.and_eq_false_iff, decide_eq_false_iff_not] at h
                  rw [fchk, if_neg (by simp [h1]), if_neg (by simp [h2]), if_pos (by rcases h with h | h; exact .inr h; exact .inl h)] at hc
                  cases hc
              have hN := WNew_T ([] : List Fn) hI1 0 h1
              simp only [fdGame, u64c, i64c, rowFn, List.map_nil, List.flatten_nil, List.length_nil] at hF hN
              rw [h2] at hgo
              rw [h3] at hop
              refine callT.pre (fn_of hF) (CLx.weak 0 (.agg [.isl [] 0, .v (.int .u64 0), .isl (ps.map i64c) ps.length, .v (.int .i64 a), .v (.int .i64 b)]) rfl (fun E y h => by have h2 := RV_nz _ _ h; simpa [fdGame, u64c, i64c] using h2) (CLx.done ?_))
              simp
              refine callT_exa [(2000, 2000), (2001, 2001), (2002, 2002), (2003, 2003), (2004, 2004), (2005, 2005), (2006, 2006)] hF ?_
              simp [i64c, i64v, u32v]
              intro v V u
              refine callT.pre (fn_of hN) (CLx.weak 0 (.agg [.isl [] 0]) rfl RV_nilA (CLx.done ?_))
              simp
              refine callT_exa [(2001, 2101), (2002, 2102), (2003, 2103), (2004, 2104), (2005, 2105), (2006, 2106)] hN ?_
              simp [i64c, i64v, u32v]
              intro V2 u2
              refine callT_eq [] hgo ?_
              simp
              refine callT_eq [] hop ?_
              simp
            · have hF := FNew_no ([] : List Fn) hI1 0 ps (by omega) a b hc
              by_cases h1 : chkV ([] : List Fn) = 0
              · have hN := WNew_T ([] : List Fn) hI1 0 h1
                simp only [fdGame, u64c, i64c, rowFn, List.map_nil, List.flatten_nil, List.length_nil] at hF hN
                refine callT.pre (fn_of hF) (CLx.weak 0 (.agg [.isl [] 0, .v (.int .u64 0), .isl (ps.map i64c) ps.length, .v (.int .i64 a), .v (.int .i64 b)]) rfl (fun E y h => by have h2 := RV_nz _ _ h; simpa [fdGame, u64c, i64c] using h2) (CLx.done ?_))
                simp
                refine callT_eq [] hF ?_
                simp [i64c, i64v, u32v]
                refine callT.pre (fn_of hN) (CLx.weak 0 (.agg [.isl [] 0]) rfl RV_nilA (CLx.done ?_))
                simp
                refine callT_exa [(2001, 2101), (2002, 2102), (2003, 2103), (2004, 2104), (2005, 2105), (2006, 2106)] hN ?_
                simp [i64c, i64v, u32v]
                intro V2 u2
                refine callT_eq [] hgo ?_
                by_cases h2 : pchk a b = 0
                · have hf : fchk ([] : List Fn) ps a b = 13 := by
                    rw [fchk, if_neg (by simp [h1]), if_neg (by simp [h2])] at hc ⊢
                    by_cases h3 : (Ros.mk (setOf ps) 0).has 0 = false ∨ (Ros.mk (setOf ps) 0).len ≠ ps.length
                    · rw [if_pos h3]
                    · rw [if_neg h3] at hc; exact absurd rfl hc
                  have h3 : openF ps = false := by
                    cases h : openF ps with
                    | false => rfl
                    | true =>
                      simp only [openF, Bool.and_eq_true, decide_eq_true_eq] at h
                      rw [fchk, if_neg (by simp [h1]), if_neg (by simp [h2]), if_neg (by rintro (h' | h'); rw [h.2] at h'; cases h'; exact h' h.1)] at hf
                      cases hf
                  simp [h2]
                  refine callT_eq [] hop ?_
                  simp [h3, hf]
                · have hf : fchk ([] : List Fn) ps a b = 4 := by
                    have h4 : pchk a b = 4 := by
                      by_cases h4 : a < 1 ∨ 64 < a ∨ b < 1 ∨ 6 < b
                      · unfold pchk; rw [if_pos h4]
                      · exact absurd (by unfold pchk; rw [if_neg h4]) h2
                    rw [fchk, if_neg (by simp [h1]), if_pos h2, h4]
                  simp [h2, hf]
              · have hN := WNew_no ([] : List Fn) hI1 0 h1
                have hf : fchk ([] : List Fn) ps a b = chkV ([] : List Fn) := by rw [fchk, if_pos h1]
                simp only [fdGame, u64c, i64c, rowFn, List.map_nil, List.flatten_nil, List.length_nil] at hF hN
                refine callT.pre (fn_of hF) (CLx.weak 0 (.agg [.isl [] 0, .v (.int .u64 0), .isl (ps.map i64c) ps.length, .v (.int .i64 a), .v (.int .i64 b)]) rfl (fun E y h => by have h2 := RV_nz _ _ h; simpa [fdGame, u64c, i64c] using h2) (CLx.done ?_))
                simp
                refine callT_eq [] hF ?_
                simp [i64c, i64v, u32v]
                refine callT.pre (fn_of hN) (CLx.weak 0 (.agg [.isl [] 0]) rfl RV_nilA (CLx.done ?_))
                simp
                refine callT_eq [] hN ?_
                simp [h1, hf]
          · have c1' : ¬ 60 < (f.code.length : Int) := by omega
            by_cases c2 : 16 < f.args
            · simp [i64c, i64v, u64c, g, g', hat, c1, c1', c2]
              have hgo := Good_T a b
              have hop := Open22_T ps (by omega)
              have hI1 : (([] : List Fn)).length ≤ 1000000 := by simp
              simp only [i64c] at hgo hop
              by_cases hc : fchk ([] : List Fn) ps a b = 0
              · have hF := FNew_T ([] : List Fn) hI1 0 ps (by omega) a b hc
                have h1 : chkV ([] : List Fn) = 0 := Classical.byContradiction fun h => by simp [fchk, h] at hc
                have h2 : pchk a b = 0 := Classical.byContradiction fun h => by simp [fchk, h1, h] at hc
                have h3 : openF ps = true := by
                  cases h : openF ps with
                  | true => rfl
                  | false =>
                    simp only [openF, Bool.and_eq_false_iff, decide_eq_false_iff_not] at h
                    rw [fchk, if_neg (by simp [h1]), if_neg (by simp [h2]), if_pos (by rcases h with h | h; exact .inr h; exact .inl h)] at hc
                    cases hc
                have hN := WNew_T ([] : List Fn) hI1 0 h1
                simp only [fdGame, u64c, i64c, rowFn, List.map_nil, List.flatten_nil, List.length_nil] at hF hN
                rw [h2] at hgo
                rw [h3] at hop
                refine callT.pre (fn_of hF) (CLx.weak 0 (.agg [.isl [] 0, .v (.int .u64 0), .isl (ps.map i64c) ps.length, .v (.int .i64 a), .v (.int .i64 b)]) rfl (fun E y h => by have h2 := RV_nz _ _ h; simpa [fdGame, u64c, i64c] using h2) (CLx.done ?_))
                simp
                refine callT_exa [(2000, 2000), (2001, 2001), (2002, 2002), (2003, 2003), (2004, 2004), (2005, 2005), (2006, 2006)] hF ?_
                simp [i64c, i64v, u32v]
                intro v V u
                refine callT.pre (fn_of hN) (CLx.weak 0 (.agg [.isl [] 0]) rfl RV_nilA (CLx.done ?_))
                simp
                refine callT_exa [(2001, 2101), (2002, 2102), (2003, 2103), (2004, 2104), (2005, 2105), (2006, 2106)] hN ?_
                simp [i64c, i64v, u32v]
                intro V2 u2
                refine callT_eq [] hgo ?_
                simp
                refine callT_eq [] hop ?_
                simp
              · have hF := FNew_no ([] : List Fn) hI1 0 ps (by omega) a b hc
                by_cases h1 : chkV ([] : List Fn) = 0
                · have hN := WNew_T ([] : List Fn) hI1 0 h1
                  simp only [fdGame, u64c, i64c, rowFn, List.map_nil, List.flatten_nil, List.length_nil] at hF hN
                  refine callT.pre (fn_of hF) (CLx.weak 0 (.agg [.isl [] 0, .v (.int .u64 0), .isl (ps.map i64c) ps.length, .v (.int .i64 a), .v (.int .i64 b)]) rfl (fun E y h => by have h2 := RV_nz _ _ h; simpa [fdGame, u64c, i64c] using h2) (CLx.done ?_))
                  simp
                  refine callT_eq [] hF ?_
                  simp [i64c, i64v, u32v]
                  refine callT.pre (fn_of hN) (CLx.weak 0 (.agg [.isl [] 0]) rfl RV_nilA (CLx.done ?_))
                  simp
                  refine callT_exa [(2001, 2101), (2002, 2102), (2003, 2103), (2004, 2104), (2005, 2105), (2006, 2106)] hN ?_
                  simp [i64c, i64v, u32v]
                  intro V2 u2
                  refine callT_eq [] hgo ?_
                  by_cases h2 : pchk a b = 0
                  · have hf : fchk ([] : List Fn) ps a b = 13 := by
                      rw [fchk, if_neg (by simp [h1]), if_neg (by simp [h2])] at hc ⊢
                      by_cases h3 : (Ros.mk (setOf ps) 0).has 0 = false ∨ (Ros.mk (setOf ps) 0).len ≠ ps.length
                      · rw [if_pos h3]
                      · rw [if_neg h3] at hc; exact absurd rfl hc
                    have h3 : openF ps = false := by
                      cases h : openF ps with
                      | false => rfl
                      | true =>
                        simp only [openF, Bool.and_eq_true, decide_eq_true_eq] at h
                        rw [fchk, if_neg (by simp [h1]), if_neg (by simp [h2]), if_neg (by rintro (h' | h'); rw [h.2] at h'; cases h'; exact h' h.1)] at hf
                        cases hf
                    simp [h2]
                    refine callT_eq [] hop ?_
                    simp [h3, hf]
                  · have hf : fchk ([] : List Fn) ps a b = 4 := by
                      have h4 : pchk a b = 4 := by
                        by_cases h4 : a < 1 ∨ 64 < a ∨ b < 1 ∨ 6 < b
                        · unfold pchk; rw [if_pos h4]
                        · exact absurd (by unfold pchk; rw [if_neg h4]) h2
                      rw [fchk, if_neg (by simp [h1]), if_pos h2, h4]
                    simp [h2, hf]
                · have hN := WNew_no ([] : List Fn) hI1 0 h1
                  have hf : fchk ([] : List Fn) ps a b = chkV ([] : List Fn) := by rw [fchk, if_pos h1]
                  simp only [fdGame, u64c, i64c, rowFn, List.map_nil, List.flatten_nil, List.length_nil] at hF hN
                  refine callT.pre (fn_of hF) (CLx.weak 0 (.agg [.isl [] 0, .v (.int .u64 0), .isl (ps.map i64c) ps.length, .v (.int .i64 a), .v (.int .i64 b)]) rfl (fun E y h => by have h2 := RV_nz _ _ h; simpa [fdGame, u64c, i64c] using h2) (CLx.done ?_))
                  simp
                  refine callT_eq [] hF ?_
                  simp [i64c, i64v, u32v]
                  refine callT.pre (fn_of hN) (CLx.weak 0 (.agg [.isl [] 0]) rfl RV_nilA (CLx.done ?_))
                  simp
                  refine callT_eq [] hN ?_
                  simp [h1, hf]
            · simp [i64c, i64v, u64c, g, g', hat, c1, c1', c2]
              exact SLx.again (j + 1) (by omega) (by omega) (by simp [i64c, ej]) (by simp [i64c, u64c])
        · have hjl : j = (I).length := by omega
          subst hjl
          simp [i64c, i64v, u64c]
          have hgo := Good_T a b
          have hop := Open22_T ps (by omega)
          have hI1 : (I).length ≤ 1000000 := by omega
          simp only [i64c] at hgo hop
          by_cases hc : fchk I ps a b = 0
          · have hF := FNew_T I hI1 0 ps (by omega) a b hc
            have h1 : chkV I = 0 := Classical.byContradiction fun h => by simp [fchk, h] at hc
            have h2 : pchk a b = 0 := Classical.byContradiction fun h => by simp [fchk, h1, h] at hc
            have h3 : openF ps = true := by
              cases h : openF ps with
              | true => rfl
              | false =>
                simp only [openF, Bool.and_eq_false_iff, decide_eq_false_iff_not] at h
                rw [fchk, if_neg (by simp [h1]), if_neg (by simp [h2]), if_pos (by rcases h with h | h; exact .inr h; exact .inl h)] at hc
                cases hc
            have hN := WNew_T I hI1 0 h1
            simp only [fdGame, u64c, i64c] at hF hN
            rw [h2] at hgo
            rw [h3] at hop
            refine callT_exa [(2000, 2000), (2001, 2001), (2002, 2002), (2003, 2003), (2004, 2004), (2005, 2005), (2006, 2006)] hF ?_
            simp [i64c, i64v, u32v]
            intro v V u
            refine callT_exa [(2001, 2101), (2002, 2102), (2003, 2103), (2004, 2104), (2005, 2105), (2006, 2106)] hN ?_
            simp [i64c, i64v, u32v]
            intro V2 u2
            refine callT_eq [] hgo ?_
            simp
            refine callT_eq [] hop ?_
            simp
          · have hF := FNew_no I hI1 0 ps (by omega) a b hc
            by_cases h1 : chkV I = 0
            · have hN := WNew_T I hI1 0 h1
              simp only [fdGame, u64c, i64c] at hF hN
              refine callT_eq [] hF ?_
              simp [i64c, i64v, u32v]
              refine callT_exa [(2001, 2101), (2002, 2102), (2003, 2103), (2004, 2104), (2005, 2105), (2006, 2106)] hN ?_
              simp [i64c, i64v, u32v]
              intro V2 u2
              refine callT_eq [] hgo ?_
              by_cases h2 : pchk a b = 0
              · have hf : fchk I ps a b = 13 := by
                  rw [fchk, if_neg (by simp [h1]), if_neg (by simp [h2])] at hc ⊢
                  by_cases h3 : (Ros.mk (setOf ps) 0).has 0 = false ∨ (Ros.mk (setOf ps) 0).len ≠ ps.length
                  · rw [if_pos h3]
                  · rw [if_neg h3] at hc; exact absurd rfl hc
                have h3 : openF ps = false := by
                  cases h : openF ps with
                  | false => rfl
                  | true =>
                    simp only [openF, Bool.and_eq_true, decide_eq_true_eq] at h
                    rw [fchk, if_neg (by simp [h1]), if_neg (by simp [h2]), if_neg (by rintro (h' | h'); rw [h.2] at h'; cases h'; exact h' h.1)] at hf
                    cases hf
                simp [h2]
                refine callT_eq [] hop ?_
                simp [h3, hf]
              · have hf : fchk I ps a b = 4 := by
                  have h4 : pchk a b = 4 := by
                    by_cases h4 : a < 1 ∨ 64 < a ∨ b < 1 ∨ 6 < b
                    · unfold pchk; rw [if_pos h4]
                    · exact absurd (by unfold pchk; rw [if_neg h4]) h2
                  rw [fchk, if_neg (by simp [h1]), if_pos h2, h4]
                simp [h2, hf]
            · have hN := WNew_no I hI1 0 h1
              have hf : fchk I ps a b = chkV I := by rw [fchk, if_pos h1]
              simp only [fdGame, u64c, i64c] at hF hN
              refine callT_eq [] hF ?_
              simp [i64c, i64v, u32v]
              refine callT_eq [] hN ?_
              simp [h1, hf]
end Go.Proofs.Ytgkhedmjkahclaa.TL
