/- What records come to: fold. -/
import Derived.Test.YtnkdkajllmopaaaGreatUWTxt
namespace Go.Proofs.YtnkdkajllmopaaaGreat.TL
open Go
set_option linter.unusedVariables false
set_option linter.unusedSimpArgs false

@[simp] theorem i64s_mvL (b v b' v' : Nat) (l : List Int) : mvL b v b' v' (l.map i64v) = l.map i64v := by induction l with | nil => simp [mvL] | cons a l ih => simp [mvL, mvT, i64v] at ih ⊢; exact ih

structure Fd where
  W : Wd
  r : Ros
  pt : Int
  pd : Int
abbrev fdH (v : Nat) (V : Vs) (u : Nat) (I : List Fn) (F : Fd) : Heap := (2000, v, ⟨0, [.at 2001 V.w 0, .isl (rowFn I) I.length, u32v F.r.s, i64c F.r.e, i64c F.pt, i64c F.pd]⟩) :: wdH V u I F.W
/-- May a game be? The error's number. -/
def fchk (I : List Fn) (ps : List Int) (t d : Int) : Int :=
  if chkV I ≠ 0 then chkV I else if pchk t d ≠ 0 then pchk t d else if (Ros.mk (setOf ps) 0).has 0 = false ∨ (Ros.mk (setOf ps) 0).len ≠ ps.length then 13 else 0
def fd0 (seed : Nat) (ps : List Int) (t d : Int) : Fd := ⟨wd0 seed, ⟨setOf ps, 0⟩, t, d⟩
def fdGame (I : List Fn) (seed : Nat) (ps : List Int) (t d : Int) : TV := .agg [.isl (rowFn I) I.length, u64c seed, .isl (ps.map i64c) ps.length, i64c t, i64c d]

set_option maxHeartbeats 1000000 in
set_option maxRecDepth 100000 in
theorem FNew_no (I : List Fn) (hI : I.length ≤ 1000000) (seed : Nat) (ps : List Int) (hps : ps.length ≤ 1000000) (t d : Int) (hc : fchk I ps t d ≠ 0) : callT Tryz.prog 10 [fdGame I seed ps t d] ⟨[], []⟩ (fun r h => r = .tup [.v (.pointer none), i64c (fchk I ps t d)] ∧ h = []) := by
  refine callT_of_body [0, 1, 2, 3, 4, 5, 6, 7, 17, 23, 38] [] Tryz.func10 rfl (by decide) (by kernel_rfl) rfl ?_
  simp [fdGame, i64c, u64c]
  intro v1
  by_cases h1 : chkV I = 0
  · have hN := WNew_T I hI seed h1
    have hP := PcChk_T t d
    simp only [u64c, i64c] at hN hP
    refine callT_exa [(2001, 2001), (2002, 2002), (2003, 2003), (2004, 2004), (2005, 2005), (2006, 2006)] hN ?_
    simp [i64c, i64v]
    intro V u
    refine callT_eq [] hP ?_
    by_cases h2 : pchk t d = 0
    · have hO := ROf_T ps hps
      have hs := setOf_lt ps
      have hH := RHas_T ⟨setOf ps, 0⟩ 0 hs
      have hL := RLen_T ⟨setOf ps, 0⟩ hs
      simp only [Ros.cells, i64c, u32v] at hO hH hL
      simp [h2, i64c]
      refine callT_eq [] hO ?_
      simp
      intro v7
      cases h3 : (Ros.mk (setOf ps) 0).has 0 with
      | false =>
        have hf : fchk I ps t d = 13 := by simp [fchk, h1, h2, h3]
        rw [h3] at hH
        refine draw_g [0, 1, 2, 3, 4, 6, 7, 8, 5] 9 [(1, [0]), (5, [0, 1, 2, 3, 4])] (by kernel_rfl) (by kernel_rfl) (by kernel_rfl) ?_
        simp
        refine callT_eq [] hH ?_
        simp [hf]
      | true =>
        have h4 : (Ros.mk (setOf ps) 0).len ≠ ps.length := fun h4 => hc (by simp [fchk, h1, h2, h3, h4])
        have hf : fchk I ps t d = 13 := by simp [fchk, h1, h2, h4]
        rw [h3] at hH
        refine draw_g [0, 1, 2, 3, 4, 6, 7, 8, 5] 9 [(1, [0]), (5, [0, 1, 2, 3, 4])] (by kernel_rfl) (by kernel_rfl) (by kernel_rfl) ?_
        simp
        refine callT_eq [] hH ?_
        simp
        refine callT_eq [] hL ?_
        simp [hf]
        omega
    · have hf : fchk I ps t d = pchk t d := by simp [fchk, h1, h2]
      simp [h2, hf, i64c]
  · have hN := WNew_no I hI seed h1
    have hf : fchk I ps t d = chkV I := by simp [fchk, h1]
    simp only [u64c, i64c] at hN
    refine callT_eq [] hN ?_
    simp [i64c, h1, hf]

set_option maxHeartbeats 1000000 in
set_option maxRecDepth 100000 in
theorem FNew_0 (I : List Fn) (hI : I.length ≤ 1000000) (seed : Nat) (ps : List Int) (hps : ps.length ≤ 1000000) (t d : Int) (hc : fchk I ps t d = 0) : callT Tryz.prog 10 [fdGame I seed ps t d] ⟨[], []⟩ (fun r h => ∃ x : Nat × Vs × Nat, r = .tup [.at 46 x.1 0, i64c 0] ∧
    ∀ p ∈ ((46, x.1, ⟨0, [.at 2001 x.2.1.w 0, .isl (rowFn I) I.length, u32v (setOf ps), i64c 0, i64c t, i64c d]⟩) :: wdH x.2.1 x.2.2 I (wd0 seed) : Heap), getH h p.1 = some p.2) := by
  refine callT_of_body [0, 1, 2, 3, 4, 5, 6, 7, 17, 23, 38] [46, 2001, 2002, 2003, 2004, 2005, 2006] Tryz.func10 rfl (by decide) (by kernel_rfl) rfl ?_
  have h1 : chkV I = 0 := Classical.byContradiction fun h => by simp [fchk, h] at hc
  have h2 : pchk t d = 0 := Classical.byContradiction fun h => by simp [fchk, h1, h] at hc
  have h3 : (Ros.mk (setOf ps) 0).has 0 = true := by
    cases h : (Ros.mk (setOf ps) 0).has 0 with
    | true => rfl
    | false => simp [fchk, h1, h2, h] at hc
  have h4 : (Ros.mk (setOf ps) 0).len = ps.length := Classical.byContradiction fun h => by simp [fchk, h1, h2, h] at hc
  have hN := WNew_T I hI seed h1
  have hP := PcChk_T t d
  have hO := ROf_T ps hps
  have hs := setOf_lt ps
  have hH := RHas_T ⟨setOf ps, 0⟩ 0 hs
  have hL := RLen_T ⟨setOf ps, 0⟩ hs
  rw [h3] at hH
  rw [h4] at hL
  rw [h2] at hP
  simp only [u64c, i64c, Ros.cells, u32v] at hN hP hO hH hL
  simp [fdGame, i64c, u64c]
  intro v1
  refine callT_exa [(2001, 2001), (2002, 2002), (2003, 2003), (2004, 2004), (2005, 2005), (2006, 2006)] hN ?_
  simp [i64c, i64v]
  intro V u
  refine callT_eq [] hP ?_
  simp [i64c]
  refine callT_eq [] hO ?_
  simp
  intro v7
  refine draw_g [0, 1, 2, 3, 4, 6, 7, 8, 5] 9 [(1, [0]), (5, [0, 1, 2, 3, 4])] (by kernel_rfl) (by kernel_rfl) (by kernel_rfl) ?_
  simp
  refine callT_eq [] hH ?_
  simp
  refine callT_eq [] hL ?_
  simp
  exact ⟨V, ⟨rfl, rfl⟩, ⟨rfl, rfl, rfl⟩, u, ⟨rfl, rfl⟩, rfl, ⟨rfl, rfl, rfl, rfl⟩, rfl, rfl⟩

theorem FNew_T (I : List Fn) (hI : I.length ≤ 1000000) (seed : Nat) (ps : List Int) (hps : ps.length ≤ 1000000) (t d : Int) (hc : fchk I ps t d = 0) : callT Tryz.prog 10 [fdGame I seed ps t d] ⟨[], []⟩ (fun r h => ∃ x : Nat × Vs × Nat, r = .tup [.at 2000 x.1 0, i64c 0] ∧ h = fdH x.1 x.2.1 x.2.2 I (fd0 seed ps t d)) := by
  refine callT.mono (FNew_0 I hI seed ps hps t d hc) fun r h hh => ?_
  obtain ⟨⟨v, V, u⟩, rfl, hH⟩ := hh
  refine VLx.sub _ hH ?_
  refine VLx.mv 46 2000 rfl rfl fun v' => ?_
  refine VLx.done ⟨(v', V, u), ?_, ?_⟩
  · simp [i64c]
  · simp [fd0, i64v, i64c, u32v]

/-- A record's sizes. -/
structure Rec.sz (r : Rec) : Prop where
  c : r.c.length ≤ 1000000
  v : ∀ c ∈ r.c, c.v.length ≤ 1000000
  l : r.l.length ≤ 1000
  b : ∀ p ∈ r.l, p.b.length ≤ 1000000
/-- A record that is applied: the state, the error's number. -/
def Fd.apply (I : List Fn) (F : Fd) (r : Rec) : Fd × Int :=
  if r.chk F.W.turn F.r ≠ 0 then (F, r.chk F.W.turn F.r) else
    (⟨(F.W.play I r.l).1, (r.ros F.r).1, if r.pt = 0 ∧ r.pd = 0 then F.pt else r.pt, if r.pt = 0 ∧ r.pd = 0 then F.pd else r.pd⟩, (F.W.play I r.l).2)

set_option maxHeartbeats 4000000 in
set_option maxRecDepth 100000 in
theorem FApply_T (v : Nat) (V : Vs) (u : Nat) (I : List Fn) (F : Fd) (r : Rec) (b : Int) (hI : Img I) (hW : F.W.Ok b) (hb : b ≤ 500000000000) (hs : F.r.s < 2 ^ 32) (he : 0 ≤ F.r.e) (he2 : F.r.e ≤ 9223372036853775807) (hr : r.sz) :
    callT Tryz.prog 13 [.at 2000 v 0, .agg r.cells] ⟨[], fdH v V u I F⟩ (fun x h => ∃ u', x = i64c (F.apply I r).2 ∧ h = fdH v V u' I (F.apply I r).1) := by
  refine callT_of_body [0, 1, 3, 4, 5, 18, 35] [2000, 2001, 2002, 2003, 2004, 2005, 2006] Tryz.func13 rfl (by decide) (by kernel_rfl) rfl ?_
  have hT := WTurn_T V u I F.W
  have hC := RcChk_T r F.W.turn F.r hs hr.v hr.c he he2 (by have := hr.l; omega) hr.b
  have hRs := RcRos_T r F.r hs hr.v hr.c he he2
  have hP := Play_T V u I F.W r.l b hI hW hb hr.l hr.b
  obtain ⟨rt, rc, rpt, rpd, rl⟩ := r
  simp only [Rec.cells, Ros.cells, i64c, u32v] at hT hC hRs hP
  simp [i64v, Rec.cells, i64c, u32v]
  intro v3
  refine draw_g [0, 1, 2, 3, 4, 6, 7, 8, 9, 5] 10 [(5, [1, 2, 3, 4])] (by kernel_rfl) (by kernel_rfl) (by kernel_rfl) ?_
  simp [i64v]
  refine callT_eq [(2001, 2001), (2002, 2002), (2003, 2003), (2004, 2004), (2005, 2005), (2006, 2006)] hT ?_
  simp [i64v]
  refine callT_eq [] hC ?_
  by_cases hc : (Rec.mk rt rc rpt rpd rl).chk F.W.turn F.r = 0
  · simp [hc, i64v]
    refine draw_g [0, 1, 2, 3, 4, 5, 6, 7, 8, 9, 10, 11, 12] 13 [(6, [1, 2, 3, 4, 5]), (12, [0, 1, 2, 3, 4, 5, 6, 7, 8, 10, 11])] (by kernel_rfl) (by kernel_rfl) (by kernel_rfl) ?_
    simp [i64v]
    refine callT_eq [] hRs ?_
    by_cases h1 : rpt = 0
    · subst h1
      by_cases h2 : rpd = 0
      · subst h2
        simp [i64v]
        refine draw_g [0, 1, 2, 3, 4, 5] 6 [] (by kernel_rfl) (by kernel_rfl) (by kernel_rfl) ?_
        simp [i64v]
        refine callT_ex [(2001, 2001), (2002, 2002), (2003, 2003), (2004, 2004), (2005, 2005), (2006, 2006)] hP ?_
        simp [i64v, i64c, u32v, Fd.apply, hc]
      · simp [i64v, h2]
        refine draw_g [0, 1, 2, 3, 4, 5] 6 [] (by kernel_rfl) (by kernel_rfl) (by kernel_rfl) ?_
        simp [i64v, h2]
        refine callT_ex [(2001, 2001), (2002, 2002), (2003, 2003), (2004, 2004), (2005, 2005), (2006, 2006)] hP ?_
        simp [i64v, i64c, u32v, Fd.apply, hc, h2]
    · simp [i64v, h1]
      refine draw_g [0, 1, 2, 3, 4, 5] 6 [] (by kernel_rfl) (by kernel_rfl) (by kernel_rfl) ?_
      simp [i64v, h1]
      refine callT_ex [(2001, 2001), (2002, 2002), (2003, 2003), (2004, 2004), (2005, 2005), (2006, 2006)] hP ?_
      simp [i64v, i64c, u32v, Fd.apply, hc, h1]
  · simp [hc, i64v, Fd.apply, i64c, u32v]

theorem wrun_tn (I : List Fn) (W : Wd) (left p : Int) (fn : Nat) (args : List Int) : (wrun I W left p fn args).1.turn = W.turn := by
  have h := runK_cnt I left.toNat (st0 I { W with player := p } fn args)
  unfold wrun Wd.bump
  generalize runK I left.toNat (st0 I { W with player := p } fn args) = q at h ⊢
  simp only [st0, Wd.cnt, List.cons.injEq] at h
  have ht : q.1.W.turn = W.turn := h.2.2.2.2.2.2.2.1
  simp only
  repeat' split
  all_goals exact ht
theorem playO_tn (I : List Fn) (p : Int) (x : Wd × Int) (o : Ord) : (playO I p x o).1.turn = x.1.turn := by
  unfold playO
  split
  · exact wrun_tn _ _ _ _ _ _
  · rfl
theorem playB_tn (I : List Fn) (p : Int) : ∀ (l : List Ord) (x : Wd × Int), (playB I p x l).1.turn = x.1.turn
  | [], x => rfl
  | o :: l, x => (playB_tn I p l _).trans (playO_tn I p x o)
theorem playL_tn (I : List Fn) : ∀ (l : List Ply) (x : Wd × Int), (playL I x l).1.turn = x.1.turn
  | [], x => rfl
  | q :: l, x => (playL_tn I l _).trans (playB_tn I q.p q.b x)
/-- A turn that is played is one more. -/
theorem play_tn (I : List Fn) (W : Wd) (l : List Ply) (h : wchk l = 0) : (W.play I l).1.turn = W.turn + 1 := by
  unfold Wd.play
  rw [if_pos h]
  simp only [wrun_tn, playL_tn]
theorem play_er (I : List Fn) (W : Wd) (l : List Ply) : (W.play I l).2 = wchk l := by
  unfold Wd.play
  split
  · rename_i h0; exact h0.symm
  · rfl
theorem play_no (I : List Fn) (W : Wd) (l : List Ply) (h : wchk l ≠ 0) : (W.play I l).1 = W := by
  unfold Wd.play
  rw [if_neg h]
theorem chk_wchk {r : Rec} {n : Int} {w : Ros} (h : r.chk n w = 0) : wchk r.l = 0 ∧ r.t = n := by
  unfold Rec.chk at h
  by_cases h1 : r.t = n
  · rw [if_neg (by simpa using h1)] at h
    refine ⟨?_, h1⟩
    split at h
    · rename_i h2; exact absurd h h2.2
    split at h
    · rename_i h2; exact absurd h h2
    split at h
    · cases h
    · exact h
  · rw [if_pos h1] at h
    cases h
/-- The error of a record is that of its check. -/
theorem apply_er (I : List Fn) (F : Fd) (r : Rec) : (F.apply I r).2 = r.chk F.W.turn F.r := by
  unfold Fd.apply
  split
  · rfl
  · rename_i h
    have h0 : r.chk F.W.turn F.r = 0 := Classical.byContradiction fun h' => h h'
    rw [play_er, (chk_wchk h0).1, h0]
theorem apply_no (I : List Fn) (F : Fd) (r : Rec) (h : r.chk F.W.turn F.r ≠ 0) : (F.apply I r).1 = F := by
  unfold Fd.apply
  rw [if_pos h]
theorem apply_tn (I : List Fn) (F : Fd) (r : Rec) (h : r.chk F.W.turn F.r = 0) : (F.apply I r).1.W.turn = F.W.turn + 1 ∧ (F.apply I r).1.r = (r.ros F.r).1 := by
  unfold Fd.apply
  rw [if_neg (by simpa using h)]
  exact ⟨play_tn _ _ _ (chk_wchk h).1, rfl⟩

theorem FRos_T (v : Nat) (V : Vs) (u : Nat) (I : List Fn) (F : Fd) : callT Tryz.prog 31 [.at 2000 v 0] ⟨[], fdH v V u I F⟩ (fun x h => x = .agg F.r.cells ∧ h = fdH v V u I F) := by
  refine callT_of_body [0, 2] [2000, 2001, 2002, 2003, 2004, 2005, 2006] Tryz.func31 rfl (by decide) (by kernel_rfl) rfl ?_
  simp [i64v, i64c, u32v, Ros.cells]
theorem FPace_T (v : Nat) (V : Vs) (u : Nat) (I : List Fn) (F : Fd) : callT Tryz.prog 28 [.at 2000 v 0] ⟨[], fdH v V u I F⟩ (fun x h => x = .agg [i64c F.pt, i64c F.pd] ∧ h = fdH v V u I F) := by
  refine callT_of_body [0, 2] [2000, 2001, 2002, 2003, 2004, 2005, 2006] Tryz.func28 rfl (by decide) (by kernel_rfl) rfl ?_
  simp [i64v, i64c, u32v, Ros.cells]

def upTo (n : Nat) : List Int := (List.range n).map Int.ofNat
theorem upTo_succ (n : Nat) : upTo (n + 1) = upTo n ++ [(n : Int)] := by simp [upTo, List.range_succ]
@[simp] theorem upTo_len (n : Nat) : (upTo n).length = n := by simp [upTo]
def plsG (n : Int) : List Int := upTo (1 + bits .and .i64 n 7).toNat
set_option maxHeartbeats 1000000 in
set_option maxRecDepth 100000 in
theorem Game22_T (n : Int) : callT Tryz.prog 8 [i64c n] ⟨[], []⟩ (fun x h => x = fdGame gameI 7 (plsG n) 2 2 ∧ h = []) := by
  refine callT.mono (K := fun x h => ∃ u, x = .agg [.isl (rowFn gameI) gameI.length, u64c 7, .sl 18 u 0 (plsG n).length, i64c 2, i64c 2] ∧ h = [(18, u, ⟨1, (plsG n).map i64c⟩)]) ?_ fun x h hh => ?_
  · refine callT_of_body [0, 2, 3, 4, 10, 11, 12] [18] Tryz.func8 rfl (by decide) (by kernel_rfl) rfl ?_
    have hn : 0 ≤ bits .and .i64 n 7 ∧ bits .and .i64 n 7 ≤ 7 := i64_and_le n 7 (by decide)
    have hgl : gameI.length = 2 := rfl
    simp [i64c]
    intro v2
    refine callT_eq [] Game_T ?_
    unfold plsG
    obtain ⟨m, hm⟩ : ∃ k : Nat, bits .and .i64 n 7 = k := ⟨(bits .and .i64 n 7).toNat, by omega⟩
    rw [hm] at hn ⊢
    have em : IntKind.i64.wrap (1 + (m : Int)) = ((m + 1 : Nat) : Int) := by rw [i64_id (by omega) (by omega)]; omega
    have et : (1 + (m : Int)).toNat = m + 1 := by omega
    rw [et]
    generalize hM : m + 1 = M at em
    have hM8 : M ≤ 8 := by omega
    simp [hm, em, u64c]
    intro v3
    refine ⟨Nat × Nat, fun x => x.1 ≤ M, fun x => ⟨[(2, .at 2 v2 0), (3, .at 3 v3 0), (10, i64c M), (11, i64c x.1)],
      [(2, v2, ⟨0, [.v (.slice none 0 0), u64c 0, .v (.slice none 0 0), i64c 0, i64c 0]⟩), (3, v3, ⟨0, [.isl (rowFn gameI) 2, u64c 7, .sl 18 x.2 0 x.1, i64c 2, i64c 2]⟩), (18, x.2, ⟨1, (upTo x.1).map i64c⟩)]⟩, fun x => M - x.1, ?_, ?_⟩
    · refine SLx.nilCell 3 2 18 1 (by decide) (by decide) rfl rfl fun u => SLx.fin _ ⟨(0, u), by simp, rfl⟩ (by simp [i64c]) (by simp [i64c, u64c, upTo])
    rintro ⟨k, u⟩ hk
    simp only at hk ⊢
    by_cases g : k < M
    · have g' : (k : Int) < (M : Int) := by omega
      have ek : IntKind.i64.wrap ((k : Int) + 1) = ((k + 1 : Nat) : Int) := by rw [i64_id (by omega) (by omega)]; rfl
      have e : List.take k ((upTo k).map i64c) = (upTo k).map i64c := List.take_of_length_le (by simp)
      simp [i64c, g, g', u64c]
      refine fun v17 => ⟨by omega, by omega, fun u' => SLx.again (k + 1, u') (by simp only; omega) (by simp only; omega) (by simp [i64c, ek]) (by simp [i64c, u64c, upTo_succ, e])⟩
    · have hkm : k = M := by omega
      subst hkm
      simp [i64c, u64c, hgl]
  · obtain ⟨u, rfl, rfl⟩ := hh
    refine VLx.frz 18 rfl (VLx.done ?_)
    have e : List.take (plsG n).length ((plsG n).map i64c) = (plsG n).map i64c := List.take_of_length_le (by simp)
    simp [fdGame, i64c, u64c, e]
end Go.Proofs.YtnkdkajllmopaaaGreat.TL
