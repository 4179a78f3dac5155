/- A peer: its state, what waits. -/
/- Peers: a record that comes. -/
/- Peers: one who enters; awake; the law PeerMay. -/
import Derived.Test.YtnkdkajllmopaaaGreatUFSn
import Derived.Test.YtnkdkajllmopaaaGreatUPc
import Derived.Test.YtnkdkajllmopaaaGreatUOrd
namespace Go.Proofs.YtnkdkajllmopaaaGreat.TL
open Go
set_option linter.unusedVariables false
set_option linter.unusedSimpArgs false

theorem VLx.nilSl {h : Heap} {S : TV → Heap → Prop} (b k : Nat) (hk : k ≠ 0) (H : ∀ v, VLx (.sl b v 0 0) (setH h b (v, ⟨k, []⟩)) S) : VLx (.v (.slice none 0 0)) h S := fun e E w v hs hr => by
  simp only [RV] at hr
  subst hr
  obtain ⟨r', h', E', a, b1, c, d⟩ := H (E.c + 1) e (E.slot b none) w _ (hs.nil b k hk) (nil_new (s := ⟨[], h⟩) hs)
  exact ⟨r', h', E', a, (hs.le_slot b none).trans b1, c, d⟩

theorem VLx.nilIsl {r : TV} {h : Heap} {S : TV → Heap → Prop} (i j : Nat) {ver : Nat} {B : Blk} (hi : getH h i = some (ver, B)) (hj : B.cells[j]? = some (.v (.slice none 0 0)))
    (n : VLx r (setH h i (ver, ⟨B.k, B.cells.set j (.isl [] 0)⟩)) S) : VLx r h S := fun e E w v H hr =>
  n e E w v (H.wk i j (fun v hv => RV_nilIsl v hv) hi hj) hr

theorem VLx.nzR {r : TV} {h : Heap} {S : TV → Heap → Prop} (k : VLx (TL.nz r) h S) : VLx r h S := fun e E w v H hr => k e E w v H (RV_nz r v hr)

/-- A peer that plays. -/
structure Pr where
  me : Int
  F : Fd
  q : List Ord
  g : Int
  st : Int
structure PVs where
  p : Nat
  f : Nat
  V : Vs
  u : Nat
  g : Nat
  w : Nat
  q : Nat
abbrev prB (x : PVs) (I : List Fn) (P : Pr) : Blk := ⟨0, [i64c P.me, .isl (rowFn I) I.length, .at 2000 x.f 0, .at 4002 x.g 0, .isl [] 0, .sl 4005 x.q 0 P.q.length, i64c P.g, i64c P.st]⟩
abbrev prH (x : PVs) (I : List Fn) (P : Pr) : Heap := (4000, x.p, prB x I P) :: (4002, x.g, ⟨0, [i64c 0, i64c 0, u64c 0, .v (.bool false), .mp 4003 x.w]⟩) :: (4003, x.w, ⟨0, []⟩) :: (4005, x.q, ⟨4, rowC P.q⟩) :: fdH x.f x.V x.u I P.F

set_option maxHeartbeats 1000000 in
set_option maxRecDepth 100000 in
theorem PBegin_0 (I : List Fn) (hI : I.length ≤ 1000000) (seed : Nat) (ps : List Int) (hps : ps.length ≤ 1000000) (t d : Int) (hc : fchk I ps t d = 0) (me : Int) (hm : me ≠ 0) (hh : (Ros.mk (setOf ps) 0).has me = true) :
    callT Tryz.prog 9 [fdGame I seed ps t d, i64c me] ⟨[], []⟩ (fun r h => ∃ x : PVs, r = .tup [.at 33 x.p 0, i64c 0] ∧
      h = [(33, x.p, ⟨0, [i64c me, .isl (rowFn I) I.length, .at 2000 x.f 0, .at 4002 x.g 0, .v (.slice none 0 0), .v (.slice none 0 0), i64c 0, i64c 2]⟩), (4002, x.g, ⟨0, [i64c 0, i64c 0, u64c 0, .v (.bool false), .mp 4003 x.w]⟩), (4003, x.w, ⟨0, []⟩)] ++ fdH x.f x.V x.u I (fd0 seed ps t d)) := by
  refine callT.mono (K := fun r h => ∃ x : PVs, r = .tup [.at 33 x.p 0, i64c 0] ∧ ∀ p ∈ ([(33, x.p, ⟨0, [i64c me, .isl (rowFn I) I.length, .at 2000 x.f 0, .at 4002 x.g 0, .v (.slice none 0 0), .v (.slice none 0 0), i64c 0, i64c 2]⟩), (4002, x.g, ⟨0, [i64c 0, i64c 0, u64c 0, .v (.bool false), .mp 4003 x.w]⟩), (4003, x.w, ⟨0, []⟩)] ++ fdH x.f x.V x.u I (fd0 seed ps t d) : Heap), getH h p.1 = some p.2) ?_ fun r h hh => ?_
  · refine callT_of_body [0, 1, 2, 4, 5, 6, 7, 13, 17] [33, 4002, 4003, 2000, 2001, 2002, 2003, 2004, 2005, 2006] Tryz.func9 rfl (by decide) (by kernel_rfl) rfl ?_
    have hN := FNew_T I hI seed ps hps t d hc
    have hR := fun v V u => FRos_T v V u I (fd0 seed ps t d)
    have hs : (fd0 seed ps t d).r.s < 2 ^ 32 := setOf_lt ps
    have hH := RHas_T (fd0 seed ps t d).r me hs
    have e0 : (fd0 seed ps t d).r.has me = true := hh
    rw [e0] at hH
    simp only [fdGame, u64c, i64c, Ros.cells, u32v] at hN hR hH
    generalize fd0 seed ps t d = F at hN hR hH
    simp [fdGame, i64c, u64c, i64v, u32v, hm]
    intro v2
    refine callT_exa [(2000, 2000), (2001, 2001), (2002, 2002), (2003, 2003), (2004, 2004), (2005, 2005), (2006, 2006)] hN ?_
    simp [i64c, i64v, u32v, hm]
    intro v V u
    refine callT_eq [(2000, 2000), (2001, 2001), (2002, 2002), (2003, 2003), (2004, 2004), (2005, 2005), (2006, 2006)] (hR v V u) ?_
    simp [i64c, i64v, u32v]
    refine callT_eq [] hH ?_
    simp [i64c, i64v, u32v]
    refine draw_g [0, 1, 2, 3, 4] 5 [(4, [])] (by kernel_rfl) (by kernel_rfl) (by kernel_rfl) ?_
    simp [i64c, i64v, u32v]
    have hGN := GNew_T
    simp only [u64c, i64c] at hGN
    refine callT_ex2 [(1, 4003), (3, 4002)] hGN ?_
    simp [i64c, i64v, u32v, u64c]
    intro w g vp
    refine ⟨⟨vp, v, V, u, g, w, 0⟩, ?_⟩
    simp
  · obtain ⟨x, rfl, hH⟩ := hh
    exact VLx.sub _ hH (VLx.done ⟨x, rfl, rfl⟩)
theorem PBegin_T (I : List Fn) (hI : I.length ≤ 1000000) (seed : Nat) (ps : List Int) (hps : ps.length ≤ 1000000) (t d : Int) (hc : fchk I ps t d = 0) (me : Int) (hm : me ≠ 0) (hh : (Ros.mk (setOf ps) 0).has me = true) :
    callT Tryz.prog 9 [fdGame I seed ps t d, i64c me] ⟨[], []⟩ (fun r h => ∃ x : PVs, r = .tup [.at 4000 x.p 0, i64c 0] ∧ h = prH x I ⟨me, fd0 seed ps t d, [], 0, 2⟩) := by
  refine callT.mono (PBegin_0 I hI seed ps hps t d hc me hm hh) fun r h hh => ?_
  obtain ⟨x, rfl, rfl⟩ := hh
  refine VLx.nilIsl 33 4 rfl rfl (VLx.nilCell 33 5 4005 4 (by decide) (by decide) rfl rfl fun uq => VLx.mv 33 4000 rfl rfl fun v => VLx.sub (prH { x with p := v, q := uq } I ⟨me, fd0 seed ps t d, [], 0, 2⟩) ?_ (VLx.done ⟨{ x with p := v, q := uq }, ?_, rfl⟩))
  · simp [i64c, i64v, u32v, u64c]
  · simp [i64c, i64v, u32v, u64c]

theorem PMe_T (x : PVs) (I : List Fn) (P : Pr) : callT Tryz.prog 20 [.at 4000 x.p 0] ⟨[], prH x I P⟩ (fun r h => r = i64c P.me ∧ h = prH x I P) := by
  refine callT_of_body [0, 2] [4000, 4002, 4003, 4005, 2000, 2001, 2002, 2003, 2004, 2005, 2006] Tryz.func20 rfl (by decide) (by kernel_rfl) rfl ?_
  simp [i64c, i64v, u32v, u64c]
theorem PStage_T (x : PVs) (I : List Fn) (P : Pr) : callT Tryz.prog 21 [.at 4000 x.p 0] ⟨[], prH x I P⟩ (fun r h => r = i64c P.st ∧ h = prH x I P) := by
  refine callT_of_body [0, 2] [4000, 4002, 4003, 4005, 2000, 2001, 2002, 2003, 2004, 2005, 2006] Tryz.func21 rfl (by decide) (by kernel_rfl) rfl ?_
  simp [i64c, i64v, u32v, u64c]
theorem PGiven_T (x : PVs) (I : List Fn) (P : Pr) : callT Tryz.prog 29 [.at 4000 x.p 0] ⟨[], prH x I P⟩ (fun r h => r = i64c P.g ∧ h = prH x I P) := by
  refine callT_of_body [0, 2] [4000, 4002, 4003, 4005, 2000, 2001, 2002, 2003, 2004, 2005, 2006] Tryz.func29 rfl (by decide) (by kernel_rfl) rfl ?_
  simp [i64c, i64v, u32v, u64c]
set_option maxHeartbeats 1000000 in
set_option maxRecDepth 100000 in
theorem PSnap_T (x : PVs) (I : List Fn) (P : Pr) (n : Int) (hF : P.F.Ok n) (hn : n ≤ 10000) : callT Tryz.prog 17 [.at 4000 x.p 0] ⟨[], prH x I P⟩ (fun r h => r = .v (.string (bs (fdB P.F))) ∧ h = prH x I P) := by
  refine callT_of_body [0, 2, 7] [4000, 4002, 4003, 4005, 2000, 2001, 2002, 2003, 2004, 2005, 2006] Tryz.func17 rfl (by decide) (by kernel_rfl) rfl ?_
  have hS := FSnap_T x.f x.V x.u I P.F n hF hn
  simp [i64c, i64v, u32v, u64c]
  refine callT_eq [(2000, 2000), (2001, 2001), (2002, 2002), (2003, 2003), (2004, 2004), (2005, 2005), (2006, 2006)] hS ?_
  simp [i64c, i64v, u32v, u64c]
set_option maxHeartbeats 1000000 in
set_option maxRecDepth 100000 in
theorem PTurn_T (x : PVs) (I : List Fn) (P : Pr) : callT Tryz.prog 22 [.at 4000 x.p 0] ⟨[], prH x I P⟩ (fun r h => r = i64c P.F.W.turn ∧ h = prH x I P) := by
  refine callT_of_body [0, 2, 7] [4000, 4002, 4003, 4005, 2000, 2001, 2002, 2003, 2004, 2005, 2006] Tryz.func22 rfl (by decide) (by kernel_rfl) rfl ?_
  have hS := WTurn_T x.V x.u I P.F.W
  simp [i64c, i64v, u32v, u64c]
  refine callT_eq [(2001, 2001), (2002, 2002), (2003, 2003), (2004, 2004), (2005, 2005), (2006, 2006)] hS ?_
  simp [i64c, i64v, u32v, u64c]

theorem rowC_drop4 (q : List Ord) : ∀ k, (rowC q).drop (k * 4) = rowC (q.drop k) := by
  induction q with
  | nil => simp
  | cons a l ih =>
    intro k
    cases k with
    | zero => simp
    | succ k =>
      have e : (k + 1) * 4 = k * 4 + 4 := by omega
      simp [Ord.cells, e, ih]
@[simp] theorem mvL_rowC (b v b' v' : Nat) (l : List Ord) : mvL b v b' v' (rowC l) = rowC l := mvL_clo _ (rowC_CloL l)
set_option maxRecDepth 100000 in
theorem CloneO_T (u : Nat) (q : List Ord) (k : Nat) (hk : k ≤ q.length) (hq : q.length ≤ 1000000) : callT Tryz.prog 51 [.sl 1000 u (k * 4) (q.length - k)] ⟨[], [(1000, u, ⟨4, rowC q⟩)]⟩ (fun r h => ∃ u', r = .sl 1001 u' 0 (q.length - k) ∧ h = [(1000, u, ⟨4, rowC q⟩), (1001, u', ⟨4, rowC (q.drop k)⟩)]) := by
  refine callT.mono (K := fun r h => (k = q.length ∧ r = .v (.slice none 0 0) ∧ h = [(1000, u, ⟨4, rowC q⟩)]) ∨ ∃ u', r = .sl 5 u' 0 (q.length - k) ∧ h = [(1000, u, ⟨4, rowC q⟩), (5, u', ⟨4, rowC (q.drop k)⟩)]) ?_ fun r h hh => ?_
  · refine callT_of_body [0, 2, 4] [1000, 5] Tryz.func51 rfl (by decide) (by kernel_rfl) rfl ?_
    have e1 : List.take ((q.length - k) * 4) (rowC (q.drop k)) = rowC (q.drop k) := List.take_of_length_le (by simp)
    simp [e1, rowC_drop4]
    omega
  · rcases hh with ⟨rfl, rfl, rfl⟩ | ⟨u', rfl, rfl⟩
    · refine VLx.nilSl 1001 4 (by decide) fun v => VLx.done ⟨v, by simp, by simp⟩
    · exact VLx.mv 5 1001 rfl rfl fun v => VLx.done ⟨v, by simp, by simp⟩

/-- A batch that goes. -/
def giveT (t : Int) (b : List Ord) : TV := .ifc 81 (.agg [i64c t, .isl (rowC b) b.length])
def givesL (g : Int) (q : List Ord) (k : Nat) : List TV := (List.range k).map fun i : Nat => giveT (g + (i : Int)) ((q.drop (8 * i)).take 8)
theorem givesL_succ (g : Int) (q : List Ord) (k : Nat) : givesL g q (k + 1) = givesL g q k ++ [giveT (g + k) ((q.drop (8 * k)).take 8)] := by simp [givesL, List.range_succ]
@[simp] theorem givesL_len (g : Int) (q : List Ord) (k : Nat) : (givesL g q k).length = k := by simp [givesL]
theorem givesL_clo (g : Int) (q : List Ord) : ∀ k, CloL (givesL g q k) ∧ AllC (givesL g q k)
  | 0 => by simp [givesL]
  | k + 1 => by
    have h := givesL_clo g q k
    rw [givesL_succ]
    exact ⟨by simp [h.1, giveT, Clo, i64c], by simp [h.2, giveT]⟩
def Pr.due (P : Pr) : Nat := if P.st = 2 then (P.F.W.turn + P.F.pd - P.g).toNat else 0
def Pr.poll (P : Pr) : Pr := { P with q := P.q.drop (8 * P.due), g := P.g + P.due }
set_option maxHeartbeats 4000000 in
set_option maxRecDepth 100000 in
theorem PPoll_T (x : PVs) (I : List Fn) (P : Pr) (n : Int) (hF : P.F.Ok n) (hn : n ≤ 10000) (hg : 0 ≤ P.g) (hg2 : P.g ≤ 1000000000000) (hq : P.q.length ≤ 1000000) (hd : P.due ≤ 1000000) : callT Tryz.prog 23 [.at 4000 x.p 0] ⟨[], prH x I P⟩ (fun r h => ∃ u, r = .isl (givesL P.g P.q P.due) P.due ∧ h = prH { x with q := u } I P.poll) := by
  refine callT.mono (K := fun r h => ∃ u uo, r = .sl 1002 uo 0 P.due ∧ h = (1002, uo, ⟨1, givesL P.g P.q P.due⟩) :: prH { x with q := u } I P.poll) ?_ fun r h hh => ?_
  · refine callT_of_body [0, 2, 3, 4, 31] [1002, 4000, 4002, 4003, 4005, 2000, 2001, 2002, 2003, 2004, 2005, 2006] Tryz.func23 rfl (by decide) (by kernel_rfl) rfl ?_
    simp [i64c, i64v, u32v, u64c]
    have hp := pchk_0 hF.p
    have htn := hF.w.sm P.F.W.turn (by simp)
    have eD : IntKind.i64.wrap (P.F.W.turn + P.F.pd) = P.F.W.turn + P.F.pd := i64_id (by omega) (by omega)
    have hduest : P.st ≠ 2 → P.due = 0 := fun h => by unfold Pr.due; rw [if_neg h]
    have hdue2 : P.st = 2 → P.due = (P.F.W.turn + P.F.pd - P.g).toNat := fun h => by unfold Pr.due; rw [if_pos h]
    have hpoll : P.poll = { P with q := P.q.drop (8 * P.due), g := P.g + P.due } := rfl
    rw [hpoll]
    have hTn := fun u' => WTurn_T x.V u' I P.F.W
    have hPc := fun u' => FPace_T x.f x.V u' I P.F
    simp only [i64c] at hTn hPc
    generalize P.due = D at hduest hdue2 hd
    refine ⟨Nat × Nat × Nat, fun y => y.1 ≤ D, fun y => ⟨[(0, .at 4000 x.p 0), (3, .sl 1002 y.2.1 0 y.1)], (1002, y.2.1, ⟨1, givesL P.g P.q y.1⟩) :: prH { x with q := y.2.2 } I { P with q := P.q.drop (8 * y.1), g := P.g + y.1 }⟩, fun y => D - y.1, ?_, ?_⟩
    · refine SLx.nil 3 1002 1 (by decide) rfl fun uo => SLx.fin _ ⟨(0, uo, x.q), by simp, rfl⟩ (by simp [i64c, i64v, u32v, u64c]) (by simp [i64c, i64v, u32v, u64c, givesL])
    rintro ⟨k, uo, uq⟩ hk
    simp only at hk ⊢
    have hgs := givesL_succ P.g P.q k
    have hdd : P.q.drop (8 * (k + 1)) = (P.q.drop (8 * k)).drop 8 := by rw [List.drop_drop]; congr 1
    have hgc := givesL_clo P.g P.q k
    have hgl := givesL_len P.g P.q k
    have hQl : (P.q.drop (8 * k)).length ≤ 1000000 := by simp; omega
    generalize hQ : P.q.drop (8 * k) = Q at hgs hdd hQl ⊢
    generalize hL : givesL P.g P.q k = L at hgs hgc hgl ⊢
    by_cases h2 : P.st = 2
    · have hD := hdue2 h2
      by_cases g : k < D
      · have g' : P.g + k < P.F.W.turn + P.F.pd := by omega
        have ek : IntKind.i64.wrap (P.g + (k : Int) + 1) = P.g + ((k + 1 : Nat) : Int) := by rw [i64_id (by omega) (by omega)]; omega
        have hO := OfI_T uq Q hQl
        have hCl := CloneO_T uq Q (min 8 Q.length) (by omega) hQl
        simp [i64c, i64v, u32v, u64c, h2]
        refine draw_g [0, 1, 2, 3, 4, 5, 6, 7, 8, 9, 10, 11, 12, 13, 14, 15, 16, 18, 19, 20, 21, 17, 22, 23, 24] 25 [(17, [0, 1, 2, 3, 4, 5, 10, 11, 12, 13, 14, 15, 16]), (22, [0, 1, 2, 3, 4, 5, 10, 11, 12, 13, 14, 15, 16, 17, 18, 19, 20, 21])] (by kernel_rfl) (by kernel_rfl) (by kernel_rfl) ?_
        simp [i64c, i64v, u32v, u64c]
        refine callT_eq [(2001, 2001), (2002, 2002), (2003, 2003), (2004, 2004), (2005, 2005), (2006, 2006)] (hTn x.u) ?_
        simp [i64c, i64v, u32v, u64c]
        refine callT_eq [(2000, 2000), (2001, 2001), (2002, 2002), (2003, 2003), (2004, 2004), (2005, 2005), (2006, 2006)] (hPc x.u) ?_
        simp [i64c, i64v, u32v, u64c, g', eD]
        refine callT_eq [(1000, 4005)] hO ?_
        simp [i64c, i64v, u32v, u64c]
        refine ⟨by omega, callT_ex [(1000, 4005), (1001, 4105)] hCl ?_⟩
        simp [i64c, i64v, u32v, u64c]
        intro u2
        have hmin : List.drop (min 8 Q.length) Q = List.drop 8 Q := by
          by_cases h8 : 8 ≤ Q.length
          · rw [Nat.min_eq_left h8]
          · rw [Nat.min_eq_right (by omega), List.drop_length, List.drop_of_length_le (by omega)]
        have hml : Q.length - min 8 Q.length = Q.length - 8 := by omega
        have eT : List.take k L = L := List.take_of_length_le (by omega)
        have eL : L.length ≤ k + 1 := by omega
        have hmv := fun b v b' v' => mvL_clo (b := b) (ver := v) (b' := b') (ver' := v') (L ++ [giveT (P.g + k) (Q.take 8)]) (by simp [hgc.1, giveT, Clo, i64c])
        simp [giveT, i64c] at hmv
        refine fun v => ⟨by omega, by omega, by omega, fun uo2 => SLx.sub ⟨[(0, .at 4000 x.p 0), (3, .sl 1002 uo2 0 (k + 1))], (1002, uo2, ⟨1, L ++ [giveT (P.g + k) (Q.take 8)]⟩) :: (4000, x.p, ⟨0, [i64c P.me, .isl (rowFn I) I.length, .at 2000 x.f 0, .at 4002 x.g 0, .isl [] 0, .sl 4105 u2 0 (Q.drop 8).length, i64c (P.g + ((k + 1 : Nat) : Int)), i64c 2]⟩) :: (4002, x.g, ⟨0, [i64c 0, i64c 0, u64c 0, .v (.bool false), .mp 4003 x.w]⟩) :: (4003, x.w, ⟨0, []⟩) :: (4105, u2, ⟨4, rowC (Q.drop 8)⟩) :: fdH x.f x.V x.u I P.F⟩ (by simp [i64c, i64v, u32v, u64c]) (by simp [i64c, i64v, u32v, u64c, eT, eL, giveT, ek, hmin, hml]) (SLx.mv 4105 4005 rfl rfl fun u3 => SLx.again (k + 1, uo2, u3) (by simp only; omega) (by simp only; omega) (by simp [i64c, i64v, u32v, u64c]) (by simp [i64c, i64v, u32v, u64c, h2, hdd, hgs, giveT, hmv]))⟩
      · have hkD : k = D := by omega
        have g' : ¬ P.g + k < P.F.W.turn + P.F.pd := by omega
        subst hkD
        simp [i64c, i64v, u32v, u64c, h2]
        refine draw_g [0, 1, 2, 3, 4, 5, 6, 7, 8, 9, 10, 11, 12, 13, 14, 15, 16, 18, 19, 20, 21, 17, 22, 23, 24] 25 [(17, [0, 1, 2, 3, 4, 5, 10, 11, 12, 13, 14, 15, 16]), (22, [0, 1, 2, 3, 4, 5, 10, 11, 12, 13, 14, 15, 16, 17, 18, 19, 20, 21])] (by kernel_rfl) (by kernel_rfl) (by kernel_rfl) ?_
        simp [i64c, i64v, u32v, u64c]
        refine callT_eq [(2001, 2001), (2002, 2002), (2003, 2003), (2004, 2004), (2005, 2005), (2006, 2006)] (hTn x.u) ?_
        simp [i64c, i64v, u32v, u64c]
        refine callT_eq [(2000, 2000), (2001, 2001), (2002, 2002), (2003, 2003), (2004, 2004), (2005, 2005), (2006, 2006)] (hPc x.u) ?_
        simp [i64c, i64v, u32v, u64c, g', eD]
        subst hQ hL
        exact ⟨rfl, uq, ⟨rfl, by simp⟩, rfl, rfl⟩
    · have hD := hduest h2
      have hk0 : k = 0 := by omega
      subst hk0
      subst hD
      subst hQ hL
      simp [i64c, i64v, u32v, u64c, h2]
      refine draw_g [0, 1, 2, 3, 4, 5, 6, 7, 8, 9, 10, 11, 12, 13, 14, 15, 16, 18, 19, 20, 21, 17, 22, 23, 24] 25 [(17, [0, 1, 2, 3, 4, 5, 10, 11, 12, 13, 14, 15, 16]), (22, [0, 1, 2, 3, 4, 5, 10, 11, 12, 13, 14, 15, 16, 17, 18, 19, 20, 21])] (by kernel_rfl) (by kernel_rfl) (by kernel_rfl) ?_
      simp [i64c, i64v, u32v, u64c, h2]
  · obtain ⟨u, uo, rfl, rfl⟩ := hh
    refine VLx.frz 1002 rfl (VLx.done ⟨u, ?_, ?_⟩)
    · have e : List.take P.due (givesL P.g P.q P.due) = givesL P.g P.q P.due := List.take_of_length_le (by simp)
      simp [e]
    · simp [i64c, i64v, u32v, u64c]

/-- An order that comes: the error's number. -/
def Pr.input (P : Pr) (o : Ord) : Pr × Int := if o.chk ≠ 0 then (P, o.chk) else if P.st = 3 then (P, 17) else if 64 ≤ P.q.length then (P, 8) else ({ P with q := P.q ++ [o] }, 0)
set_option maxHeartbeats 1000000 in
set_option maxRecDepth 100000 in
theorem PInput_T (x : PVs) (I : List Fn) (P : Pr) (o : Ord) (hq : P.q.length ≤ 1000000) : callT Tryz.prog 25 [.at 4000 x.p 0, .agg o.cells] ⟨[], prH x I P⟩ (fun r h => ∃ u, r = i64c (P.input o).2 ∧ h = prH { x with q := u } I (P.input o).1) := by
  refine callT_of_body [0, 1, 3, 4, 5, 9, 11, 17] [4000, 4002, 4003, 4005, 2000, 2001, 2002, 2003, 2004, 2005, 2006] Tryz.func25 rfl (by decide) (by kernel_rfl) rfl ?_
  have hC := Check_T o
  unfold Pr.input
  generalize o.chk = c at hC ⊢
  obtain ⟨ok, ou, oa, ob⟩ := o
  simp only [Ord.cells, i64c] at hC
  simp [Ord.cells, i64c, i64v, u32v, u64c]
  intro v3
  refine callT_eq [] hC ?_
  by_cases hc : c = 0
  · subst hc
    by_cases h3 : P.st = 3
    · simp [i64c, i64v, u32v, u64c, h3]
    · by_cases h64 : 64 ≤ P.q.length
      · have h64' : (64 : Int) ≤ P.q.length := by omega
        simp [i64c, i64v, u32v, u64c, h3, h64, h64']
      · have h64' : ¬ (64 : Int) ≤ P.q.length := by omega
        simp [i64c, i64v, u32v, u64c, h3, h64, h64']
        refine draw_g [0, 1, 2, 3, 4, 5, 6, 7] 8 [(7, [1, 2, 3, 4, 5, 6])] (by kernel_rfl) (by kernel_rfl) (by kernel_rfl) ?_
        simp [i64c, i64v, u32v, u64c]
        refine ⟨by omega, by omega, ?_⟩
        rw [List.take_of_length_le (by simp)]
        rfl
  · simp [i64c, i64v, u32v, u64c, hc]

def hashT (t : Int) (s : Nat) : TV := .ifc 66 (.agg [i64c t, u64c s])
/-- A record that comes: what it says, the error's number. -/
def Pr.turn (I : List Fn) (P : Pr) (r : Rec) : Pr :=
  if (P.F.apply I r).2 ≠ 0 then P else { P with F := (P.F.apply I r).1, st := if P.F.r.has P.me = true ∧ (P.F.apply I r).1.r.has P.me = false then 3 else P.st }
def Pr.says (I : List Fn) (P : Pr) (r : Rec) : List TV :=
  if (P.F.apply I r).2 ≠ 0 ∨ (P.turn I r).F.W.turn.tmod 4 ≠ 0 ∨ (P.turn I r).st ≠ 2 then [] else [hashT (P.turn I r).F.W.turn (sumOf (wdB (P.turn I r).F.W))]
end Go.Proofs.YtnkdkajllmopaaaGreat.TL
namespace Go.Proofs.YtnkdkajllmopaaaGreat.TL
open Go
set_option linter.unusedVariables false
set_option linter.unusedSimpArgs false

set_option maxHeartbeats 4000000 in
set_option maxRecDepth 100000 in
theorem PRec_0 (x : PVs) (I : List Fn) (P : Pr) (r : Rec) (n : Int) (hI : Img I) (hnp : NoPut I) (hF : P.F.Ok n) (hn0 : 0 ≤ n) (hn : n ≤ 9999) (hr : r.sz) : callT Tryz.prog 42 [.at 4000 x.p 0, .agg r.cells] ⟨[], prH x I P⟩
    (fun y h => ∃ u : Nat, (P.says I r = [] ∧ y = .tup [.v (.slice none 0 0), i64c (P.F.apply I r).2] ∧ h = prH { x with u := u } I (P.turn I r)) ∨
      ∃ w : Nat, P.says I r ≠ [] ∧ y = .tup [.sl 100 w 0 1, i64c (P.F.apply I r).2] ∧ h = prH { x with u := u } I (P.turn I r) ++ [(100, w, ⟨1, P.says I r⟩)]) := by
  refine callT_of_body [0, 1, 3, 4, 5, 6, 7, 12, 18, 46, 61, 81] [100, 4000, 4002, 4003, 4005, 2000, 2001, 2002, 2003, 2004, 2005, 2006] Tryz.func42 rfl (by decide) (by kernel_rfl) rfl ?_
  have heb := hF.e
  have hRo := FRos_T x.f x.V x.u I P.F
  have hHa := RHas_T P.F.r P.me hF.s
  have hap := FApply_T x.f x.V x.u I P.F r _ hI hF.w (by omega) hF.s hF.e0 (by omega) hr
  have hF' := Fd.apply_ok hI hnp hF hr hn0
  have hno : (P.F.apply I r).2 ≠ 0 → (P.F.apply I r).1 = P.F := fun h => apply_no I P.F r (by rwa [apply_er] at h)
  unfold Pr.says Pr.turn
  generalize P.F.apply I r = q at hap hF' hno ⊢
  obtain ⟨F', e⟩ := q
  simp only at hap hF' hno ⊢
  have hRo' := fun u => FRos_T x.f x.V u I F'
  have hHa' := RHas_T F'.r P.me hF'.s
  have hTu' := fun u => WTurn_T x.V u I F'.W
  have hHs' := fun u => WHash_T x.V u I F'.W _ hF'.w (by omega) hF'.R
  obtain ⟨rt, rc, rpt, rpd, rl⟩ := r
  simp only [Rec.cells, Ros.cells, i64c, u32v, u64c] at hRo hHa hap hRo' hHa' hTu' hHs'
  simp [Rec.cells, i64c, i64v, u32v, u64c]
  intro v3
  refine draw_g [0, 1, 2, 3, 5, 6, 7, 8, 4] 9 [(4, [0, 1, 2, 3])] (by kernel_rfl) (by kernel_rfl) (by kernel_rfl) ?_
  simp [i64c, i64v, u32v, u64c]
  refine callT_eq [(2000, 2000), (2001, 2001), (2002, 2002), (2003, 2003), (2004, 2004), (2005, 2005), (2006, 2006)] hRo ?_
  simp [i64c, i64v, u32v, u64c]
  refine callT_eq [] hHa ?_
  simp [i64c, i64v, u32v, u64c]
  refine draw_g [0, 1, 2, 3, 4] 5 [] (by kernel_rfl) (by kernel_rfl) (by kernel_rfl) ?_
  simp [i64c, i64v, u32v, u64c]
  refine callT_ex [(2000, 2000), (2001, 2001), (2002, 2002), (2003, 2003), (2004, 2004), (2005, 2005), (2006, 2006)] hap ?_
  simp [i64c, i64v, u32v, u64c]
  intro u1
  by_cases he : e = 0
  · subst he
    cases hh : P.F.r.has P.me with
    | false =>
      simp [i64c, i64v, u32v, u64c]
      refine draw_g [0, 1, 2, 3, 4, 5, 7, 8, 9, 10, 6] 11 [(6, [0, 1, 2, 3, 4, 5])] (by kernel_rfl) (by kernel_rfl) (by kernel_rfl) ?_
      simp [i64c, i64v, u32v, u64c]
      by_cases h4 : F'.W.turn.tmod 4 = 0
      · by_cases h2 : P.st = 2
        · simp [i64c, i64v, u32v, u64c, h4, h2, hashT, hh]
          refine callT_eq [(2001, 2001), (2002, 2002), (2003, 2003), (2004, 2004), (2005, 2005), (2006, 2006)] (hTu' u1) ?_
          simp [i64c, i64v, u32v, u64c, h4, h2, hashT, hh]
          refine draw_g [0, 1, 2, 3, 4, 5, 6, 8, 9, 10, 11, 12, 13, 14, 7] 15 [(7, [0, 1, 2, 3, 4, 5, 6])] (by kernel_rfl) (by kernel_rfl) (by kernel_rfl) ?_
          simp [i64c, i64v, u32v, u64c, h4, h2, hashT, hh]
          refine callT_eq [(2001, 2001), (2002, 2002), (2003, 2003), (2004, 2004), (2005, 2005), (2006, 2006)] (hTu' u1) ?_
          simp [i64c, i64v, u32v, u64c, h4, h2, hashT, hh]
          refine callT_eq [(2001, 2001), (2002, 2002), (2003, 2003), (2004, 2004), (2005, 2005), (2006, 2006)] (hHs' u1) ?_
          simp [i64c, i64v, u32v, u64c, h4, h2, hashT, hh]
        · simp [i64c, i64v, u32v, u64c, h4, h2, hashT, hh]
          refine callT_eq [(2001, 2001), (2002, 2002), (2003, 2003), (2004, 2004), (2005, 2005), (2006, 2006)] (hTu' u1) ?_
          simp [i64c, i64v, u32v, u64c, h4, h2, hashT, hh]
      · simp [i64c, i64v, u32v, u64c, h4, hh]
        refine callT_eq [(2001, 2001), (2002, 2002), (2003, 2003), (2004, 2004), (2005, 2005), (2006, 2006)] (hTu' u1) ?_
        simp [i64c, i64v, u32v, u64c, h4, hh]
    | true =>
      cases hg : F'.r.has P.me with
      | true =>
        rw [hg] at hHa'
        simp [i64c, i64v, u32v, u64c]
        refine draw_g [0, 1, 2, 3, 4, 5, 7, 8, 9, 10, 6] 11 [(6, [0, 1, 2, 3, 4, 5])] (by kernel_rfl) (by kernel_rfl) (by kernel_rfl) ?_
        simp [i64c, i64v, u32v, u64c]
        refine callT_eq [(2000, 2000), (2001, 2001), (2002, 2002), (2003, 2003), (2004, 2004), (2005, 2005), (2006, 2006)] (hRo' u1) ?_
        simp [i64c, i64v, u32v, u64c]
        refine callT_eq [] hHa' ?_
        by_cases h4 : F'.W.turn.tmod 4 = 0
        · by_cases h2 : P.st = 2
          · simp [i64c, i64v, u32v, u64c, h4, h2, hashT, hh, hg]
            refine callT_eq [(2001, 2001), (2002, 2002), (2003, 2003), (2004, 2004), (2005, 2005), (2006, 2006)] (hTu' u1) ?_
            simp [i64c, i64v, u32v, u64c, h4, h2, hashT, hh, hg]
            refine draw_g [0, 1, 2, 3, 4, 5, 6, 8, 9, 10, 11, 12, 13, 14, 7] 15 [(7, [0, 1, 2, 3, 4, 5, 6])] (by kernel_rfl) (by kernel_rfl) (by kernel_rfl) ?_
            simp [i64c, i64v, u32v, u64c, h4, h2, hashT, hh, hg]
            refine callT_eq [(2001, 2001), (2002, 2002), (2003, 2003), (2004, 2004), (2005, 2005), (2006, 2006)] (hTu' u1) ?_
            simp [i64c, i64v, u32v, u64c, h4, h2, hashT, hh, hg]
            refine callT_eq [(2001, 2001), (2002, 2002), (2003, 2003), (2004, 2004), (2005, 2005), (2006, 2006)] (hHs' u1) ?_
            simp [i64c, i64v, u32v, u64c, h4, h2, hashT, hh, hg]
          · simp [i64c, i64v, u32v, u64c, h4, h2, hashT, hh, hg]
            refine callT_eq [(2001, 2001), (2002, 2002), (2003, 2003), (2004, 2004), (2005, 2005), (2006, 2006)] (hTu' u1) ?_
            simp [i64c, i64v, u32v, u64c, h4, h2, hashT, hh, hg]
        · simp [i64c, i64v, u32v, u64c, h4, hh, hg]
          refine callT_eq [(2001, 2001), (2002, 2002), (2003, 2003), (2004, 2004), (2005, 2005), (2006, 2006)] (hTu' u1) ?_
          simp [i64c, i64v, u32v, u64c, h4, hh, hg]
      | false =>
        rw [hg] at hHa'
        simp [i64c, i64v, u32v, u64c]
        refine draw_g [0, 1, 2, 3, 4, 5, 7, 8, 9, 10, 6] 11 [(6, [0, 1, 2, 3, 4, 5])] (by kernel_rfl) (by kernel_rfl) (by kernel_rfl) ?_
        simp [i64c, i64v, u32v, u64c]
        refine callT_eq [(2000, 2000), (2001, 2001), (2002, 2002), (2003, 2003), (2004, 2004), (2005, 2005), (2006, 2006)] (hRo' u1) ?_
        simp [i64c, i64v, u32v, u64c]
        refine callT_eq [] hHa' ?_
        simp [i64c, i64v, u32v, u64c, hh, hg]
        refine callT_eq [(2001, 2001), (2002, 2002), (2003, 2003), (2004, 2004), (2005, 2005), (2006, 2006)] (hTu' u1) ?_
        by_cases h4 : F'.W.turn.tmod 4 = 0
        · simp [i64c, i64v, u32v, u64c, h4, hh, hg]
        · simp [i64c, i64v, u32v, u64c, h4, hh, hg]
  · have hFF := hno he
    subst hFF
    simp [i64c, i64v, u32v, u64c, he]

theorem says_clo (I : List Fn) (P : Pr) (r : Rec) : CloL (P.says I r) ∧ (P.says I r = [] ∨ (P.says I r).length = 1) := by
  unfold Pr.says
  split
  · exact ⟨trivial, .inl rfl⟩
  · exact ⟨by simp [hashT, Clo, i64c, u64c], .inr rfl⟩
theorem PRec_T (x : PVs) (I : List Fn) (P : Pr) (r : Rec) (n : Int) (hI : Img I) (hnp : NoPut I) (hF : P.F.Ok n) (hn0 : 0 ≤ n) (hn : n ≤ 9999) (hr : r.sz) : callT Tryz.prog 42 [.at 4000 x.p 0, .agg r.cells] ⟨[], prH x I P⟩
    (fun y h => ∃ u : Nat, y = .tup [.isl (P.says I r) (P.says I r).length, i64c (P.F.apply I r).2] ∧ h = prH { x with u := u } I (P.turn I r)) := by
  have hs := says_clo I P r
  refine callT.mono (PRec_0 x I P r n hI hnp hF hn0 hn hr) fun y h hh => ?_
  generalize P.says I r = L at hs hh ⊢
  obtain ⟨u, ⟨rfl, rfl, rfl⟩ | ⟨w, h0, rfl, rfl⟩⟩ := hh
  · refine VLx.nzR (VLx.done ⟨u, ?_, rfl⟩)
    simp [i64c]
  · have h1 : L.length = 1 := by rcases hs.2 with h | h; exact absurd h h0; exact h
    refine VLx.frz 100 rfl (VLx.done ⟨u, ?_, ?_⟩)
    · have e : List.take 1 L = L := List.take_of_length_le (by omega)
      simp [i64c, e, h1]
    · simp [i64c, i64v, u32v, u64c]
set_option maxHeartbeats 1000000 in
set_option maxRecDepth 100000 in
theorem PTkT_T (x : PVs) (I : List Fn) (P : Pr) (r : Rec) (n : Int) (hI : Img I) (hnp : NoPut I) (hF : P.F.Ok n) (hn0 : 0 ≤ n) (hn : n ≤ 9999) (hr : r.sz) : callT Tryz.prog 14 [.at 4000 x.p 0, .ifc 55 (.agg r.cells)] ⟨[], prH x I P⟩
    (fun y h => ∃ u : Nat, y = .tup [.isl (P.says I r) (P.says I r).length, i64c (P.F.apply I r).2] ∧ h = prH { x with u := u } I (P.turn I r)) := by
  refine callT_of_body [0, 1, 4, 5, 6, 7, 8, 9, 10, 11, 13, 14, 22, 23, 31, 32, 37, 44, 45, 50, 65, 66, 80] [4000, 4002, 4003, 4005, 2000, 2001, 2002, 2003, 2004, 2005, 2006] Tryz.func14 rfl (by decide) (by kernel_rfl) rfl ?_
  have hT := PRec_T x I P r n hI hnp hF hn0 hn hr
  have hs := (says_clo I P r).1
  generalize P.says I r = L at hT hs ⊢
  generalize P.turn I r = P' at hT ⊢
  generalize (P.F.apply I r).2 = e at hT ⊢
  obtain ⟨rt, rc, rpt, rpd, rl⟩ := r
  simp only [Rec.cells, i64c] at hT
  simp [Rec.cells, i64c, i64v, u32v, u64c]
  intro v6
  refine callT_ex [(4000, 4000), (4002, 4002), (4003, 4003), (4005, 4005), (2000, 2000), (2001, 2001), (2002, 2002), (2003, 2003), (2004, 2004), (2005, 2005), (2006, 2006)] hT ?_
  simp [i64c, i64v, u32v, u64c]
  exact hs
/-- Any other letter that is none for a peer. -/
theorem PTkL_T (x : PVs) (I : List Fn) (P : Pr) : callT Tryz.prog 14 [.at 4000 x.p 0, .ifc 101 (.agg [])] ⟨[], prH x I P⟩
    (fun y h => y = .tup [.v (.slice none 0 0), i64c 7] ∧ h = prH x I P) := by
  refine callT_of_body [0, 1, 4, 5, 6, 7, 8, 9, 10, 11, 13, 14, 22, 23, 31, 32, 37, 44, 45, 50, 65, 66, 80] [4000, 4002, 4003, 4005, 2000, 2001, 2002, 2003, 2004, 2005, 2006] Tryz.func14 rfl (by decide) (by kernel_rfl) rfl ?_
  simp [i64c, i64v, u32v, u64c]
end Go.Proofs.YtnkdkajllmopaaaGreat.TL
namespace Go.Proofs.YtnkdkajllmopaaaGreat.TL
open Go
set_option linter.unusedVariables false
set_option linter.unusedSimpArgs false

def rowRc (l : List Rec) : List TV := (l.map Rec.cells).flatten
@[simp] theorem rowRc_nil : rowRc [] = [] := rfl
def gth0 : Gth := ⟨0, 0, 0, false, []⟩
structure EVs where
  p : Nat
  g : Nat
  w : Nat
  e : Nat
  q : Nat
abbrev enH (x : EVs) (I : List Fn) (me : Int) (G : Gth) (E : List Rec) : Heap := [(4000, x.p, ⟨0, [i64c me, .isl (rowFn I) I.length, .v (.pointer none), .at 4002 x.g 0, .sl 4004 x.e 0 E.length, .sl 4005 x.q 0 0, i64c 0, i64c 0]⟩), (4002, x.g, ⟨0, [i64c G.t, i64c G.b, u64c G.h, .v (.bool G.g), .mp 4003 x.w]⟩), (4003, x.w, ⟨0, mapC .i64 strT G.m⟩), (4004, x.e, ⟨5, rowRc E⟩), (4005, x.q, ⟨4, []⟩)]

set_option maxHeartbeats 1000000 in
set_option maxRecDepth 100000 in
theorem PEnter_T (I : List Fn) : callT Tryz.prog 19 [.agg [.isl (rowFn I) I.length]] ⟨[], []⟩ (fun r h => ∃ x : EVs, r = .at 4000 x.p 0 ∧ h = enH x I (-1) gth0 []) := by
  refine callT.mono (K := fun r h => ∃ p g w : Nat, r = .at 6 p 0 ∧ ∀ q ∈ ([(6, p, ⟨0, [i64c (-1), .isl (rowFn I) I.length, .v (.pointer none), .at 4002 g 0, .v (.slice none 0 0), .v (.slice none 0 0), i64c 0, i64c 0]⟩), (4003, w, ⟨0, []⟩), (4002, g, ⟨0, [i64c 0, i64c 0, u64c 0, .v (.bool false), .mp 4003 w]⟩)] : Heap), getH h q.1 = some q.2) ?_ fun r h hh => ?_
  · refine callT_of_body [0, 1, 2] [6, 4002, 4003] Tryz.func19 rfl (by decide) (by kernel_rfl) rfl ?_
    simp [i64c, i64v, u32v, u64c]
    intro v1
    refine draw_g [0, 1] 2 [(1, [])] (by kernel_rfl) (by kernel_rfl) (by kernel_rfl) ?_
    simp [i64c, i64v, u32v, u64c]
    have hGN := GNew_T
    simp only [u64c, i64c] at hGN
    refine callT_ex2 [(1, 4003), (3, 4002)] hGN ?_
    simp [i64c, i64v, u32v, u64c]
  · obtain ⟨p, g, w, rfl, hH⟩ := hh
    refine VLx.sub _ hH ?_
    refine VLx.nilCell 6 4 4004 5 (by decide) (by decide) rfl rfl fun ue => VLx.nilCell 6 5 4005 4 (by decide) (by decide) rfl rfl fun uq => VLx.mv 6 4000 rfl rfl fun v => VLx.sub (enH ⟨v, g, w, ue, uq⟩ I (-1) gth0 []) ?_ (VLx.done ⟨⟨v, g, w, ue, uq⟩, ?_, rfl⟩)
    · simp [i64c, i64v, u32v, u64c, Gth.cells, gth0]
    · simp
set_option maxRecDepth 100000 in
theorem EMe_T (x : EVs) (I : List Fn) (me : Int) (G : Gth) (E : List Rec) : callT Tryz.prog 20 [.at 4000 x.p 0] ⟨[], enH x I me G E⟩ (fun r h => r = i64c me ∧ h = enH x I me G E) := by
  refine callT_of_body [0, 2] [4000, 4002, 4003, 4004, 4005] Tryz.func20 rfl (by decide) (by kernel_rfl) rfl ?_
  simp [i64c, i64v, u32v, u64c]
set_option maxRecDepth 100000 in
theorem EStage_T (x : EVs) (I : List Fn) (me : Int) (G : Gth) (E : List Rec) : callT Tryz.prog 21 [.at 4000 x.p 0] ⟨[], enH x I me G E⟩ (fun r h => r = i64c 0 ∧ h = enH x I me G E) := by
  refine callT_of_body [0, 2] [4000, 4002, 4003, 4004, 4005] Tryz.func21 rfl (by decide) (by kernel_rfl) rfl ?_
  simp [i64c, i64v, u32v, u64c]
set_option maxRecDepth 100000 in
theorem ETurn_T (x : EVs) (I : List Fn) (me : Int) (G : Gth) (E : List Rec) : callT Tryz.prog 22 [.at 4000 x.p 0] ⟨[], enH x I me G E⟩ (fun r h => r = i64c (-1) ∧ h = enH x I me G E) := by
  refine callT_of_body [0, 2, 7] [4000, 4002, 4003, 4004, 4005] Tryz.func22 rfl (by decide) (by kernel_rfl) rfl ?_
  simp [i64c, i64v, u32v, u64c]
set_option maxRecDepth 100000 in
theorem ESnap_T (x : EVs) (I : List Fn) (me : Int) (G : Gth) (E : List Rec) : callT Tryz.prog 17 [.at 4000 x.p 0] ⟨[], enH x I me G E⟩ (fun r h => r = .v (.string (bs [])) ∧ h = enH x I me G E) := by
  refine callT_of_body [0, 2, 7] [4000, 4002, 4003, 4004, 4005] Tryz.func17 rfl (by decide) (by kernel_rfl) rfl ?_
  simp [i64c, i64v, u32v, u64c, bs_nil]
set_option maxRecDepth 100000 in
theorem EPoll_T (x : EVs) (I : List Fn) (me : Int) (G : Gth) (E : List Rec) : callT Tryz.prog 23 [.at 4000 x.p 0] ⟨[], enH x I me G E⟩ (fun r h => r = .isl [] 0 ∧ h = enH x I me G E) := by
  refine callT.mono (K := fun r h => r = .v (.slice none 0 0) ∧ h = enH x I me G E) ?_ fun r h hh => ?_
  · refine callT_of_body [0, 2, 3, 4, 31] [4000, 4002, 4003, 4004, 4005] Tryz.func23 rfl (by decide) (by kernel_rfl) rfl ?_
    simp [i64c, i64v, u32v, u64c]
    refine ⟨Unit, fun _ => True, fun _ => ⟨[(3, .v (.slice none 0 0)), (0, .at 4000 x.p 0)], enH x I me G E⟩, fun _ => 0, ?_, ?_⟩
    · exact SLx.fin _ ⟨(), trivial, rfl⟩ (by simp [i64c, i64v, u32v, u64c]) (by simp [i64c, i64v, u32v, u64c])
    rintro ⟨⟩ -
    simp [i64c, i64v, u32v, u64c]
    refine draw_g [0, 1, 2, 3, 4, 5, 6, 7, 8, 9, 10, 11, 12, 13, 14, 15, 16, 18, 19, 20, 21, 17, 22, 23, 24] 25 [(17, [0, 1, 2, 3, 4, 5, 10, 11, 12, 13, 14, 15, 16]), (22, [0, 1, 2, 3, 4, 5, 10, 11, 12, 13, 14, 15, 16, 17, 18, 19, 20, 21])] (by kernel_rfl) (by kernel_rfl) (by kernel_rfl) ?_
    simp [i64c, i64v, u32v, u64c]
  · obtain ⟨rfl, rfl⟩ := hh
    exact VLx.nil' ⟨rfl, rfl⟩

theorem mem_upTo (n : Nat) (x : Int) : x ∈ upTo n ↔ 0 ≤ x ∧ x < n := by
  unfold upTo
  simp only [List.mem_map, List.mem_range]
  constructor
  · rintro ⟨k, h, rfl⟩
    exact ⟨Int.natCast_nonneg k, by simp only [Int.ofNat_eq_natCast]; omega⟩
  · rintro ⟨h0, h1⟩
    exact ⟨x.toNat, by omega, by simp only [Int.ofNat_eq_natCast]; omega⟩
theorem plsG_has (n me : Int) : (Ros.mk (setOf (plsG n)) 0).has me = decide (0 ≤ me ∧ me ≤ bits .and .i64 n 7) := by
  have hn : 0 ≤ bits .and .i64 n 7 ∧ bits .and .i64 n 7 ≤ 7 := i64_and_le n 7 (by decide)
  unfold Ros.has
  by_cases h0 : 0 ≤ me
  · by_cases h1 : me < 32
    · have hb := setOf_bit (plsG n) me.toNat (by omega)
      have hc : ((me.toNat : Nat) : Int) = me := by omega
      rw [hc] at hb
      simp only [h0, h1, decide_true, Bool.true_and, hb, true_and]
      unfold plsG
      rw [decide_eq_decide, mem_upTo]
      omega
    · have : ¬ (me ≤ bits .and .i64 n 7) := by omega
      simp [h1, this]
  · simp [h0]

set_option maxHeartbeats 1000000 in
set_option maxRecDepth 100000 in
theorem PBegin_no (I : List Fn) (hI : I.length ≤ 1000000) (seed : Nat) (ps : List Int) (hps : ps.length ≤ 1000000) (t d : Int) (hc : fchk I ps t d ≠ 0) (me : Int) :
    callT Tryz.prog 9 [fdGame I seed ps t d, i64c me] ⟨[], []⟩ (fun r h => r = .tup [.v (.pointer none), i64c (fchk I ps t d)] ∧ h = []) := by
  refine callT_of_body [0, 1, 2, 4, 5, 6, 7, 13, 17] [] Tryz.func9 rfl (by decide) (by kernel_rfl) rfl ?_
  have hN := FNew_no I hI seed ps hps t d hc
  simp only [fdGame, u64c, i64c] at hN
  simp [fdGame, i64c, u64c, i64v, u32v]
  intro v2
  refine callT_eq [] hN ?_
  simp [i64c, i64v, u32v, hc]
set_option maxHeartbeats 1000000 in
set_option maxRecDepth 100000 in
theorem PBegin_13 (I : List Fn) (hI : I.length ≤ 1000000) (seed : Nat) (ps : List Int) (hps : ps.length ≤ 1000000) (t d : Int) (hc : fchk I ps t d = 0) (me : Int) (hh : me = 0 ∨ (Ros.mk (setOf ps) 0).has me = false) :
    callT Tryz.prog 9 [fdGame I seed ps t d, i64c me] ⟨[], []⟩ (fun r h => r = .tup [.v (.pointer none), i64c 13] ∧ h = []) := by
  refine callT.mono (K := fun r h => r = .tup [.v (.pointer none), i64c 13]) ?_ fun r h hh => ?_
  · refine callT_of_body [0, 1, 2, 4, 5, 6, 7, 13, 17] [] Tryz.func9 rfl (by decide) (by kernel_rfl) rfl ?_
    have hN := FNew_T I hI seed ps hps t d hc
    have hR := fun v V u => FRos_T v V u I (fd0 seed ps t d)
    have hs : (fd0 seed ps t d).r.s < 2 ^ 32 := setOf_lt ps
    have hH := RHas_T (fd0 seed ps t d).r me hs
    have e0 : me = 0 ∨ (fd0 seed ps t d).r.has me = false := hh
    simp only [fdGame, u64c, i64c, Ros.cells, u32v] at hN hR hH
    generalize fd0 seed ps t d = F at hN hR hH e0
    by_cases hm : me = 0
    · subst hm
      simp [fdGame, i64c, u64c, i64v, u32v]
      intro v2
      refine callT_exa [(2000, 2000), (2001, 2001), (2002, 2002), (2003, 2003), (2004, 2004), (2005, 2005), (2006, 2006)] hN ?_
      simp [i64c, i64v, u32v]
    · have e1 : F.r.has me = false := by rcases e0 with h | h; exact absurd h hm; exact h
      rw [e1] at hH
      simp [fdGame, i64c, u64c, i64v, u32v, hm]
      intro v2
      refine callT_exa [(2000, 2000), (2001, 2001), (2002, 2002), (2003, 2003), (2004, 2004), (2005, 2005), (2006, 2006)] hN ?_
      simp [i64c, i64v, u32v, hm]
      intro v V u
      refine callT_eq [(2000, 2000), (2001, 2001), (2002, 2002), (2003, 2003), (2004, 2004), (2005, 2005), (2006, 2006)] (hR v V u) ?_
      simp [i64c, i64v, u32v]
      refine callT_eq [] hH ?_
      simp [i64c, i64v, u32v]
  · subst hh
    exact VLx.sub [] (by simp) (VLx.done ⟨rfl, rfl⟩)

theorem plsG1 : plsG 1 = [0, 1] := by decide
def pr1 : Pr := ⟨1, fd0 7 [0, 1] 2 2, [], 0, 2⟩
theorem pr1_due : pr1.due = 2 ∧ pr1.poll.due = 0 ∧ pr1.poll.g = 2 ∧ pr1.poll.st = 2 := ⟨rfl, rfl, rfl, rfl⟩
set_option maxHeartbeats 4000000 in
set_option maxRecDepth 100000 in
theorem PAwk_T : callT Tryz.prog 7 [] ⟨[], []⟩ (fun r h => r = .v (.bool true) ∧ h = []) := by
  refine callT_of_body [0, 1, 2, 3, 5, 16] [] Tryz.func7 rfl (by decide) (by kernel_rfl) rfl ?_
  have hG := Game22_T 1
  have hF0 := fd0_ok 1
  have hc := plsG_ok 1
  rw [plsG1] at hG hF0 hc
  have hB := PBegin_T gameI (by decide) 7 [0, 1] (by decide) 2 2 hc.1 1 (by decide) (by decide)
  have hd := pr1_due
  have hB' : callT Tryz.prog 9 [fdGame gameI 7 [0, 1] 2 2, i64c 1] ⟨[], []⟩ (fun r h => ∃ x : PVs, r = .tup [.at 4000 x.p 0, i64c 0] ∧ h = prH x gameI pr1) := hB
  have hF1 : pr1.F.Ok 0 := hF0
  have hF2 : pr1.poll.F.Ok 0 := hF0
  have hP1 := fun x => PPoll_T x gameI pr1 0 hF1 (by decide) (by decide) (by decide) (by decide) (by rw [hd.1]; decide)
  have hP2 := fun x => PPoll_T x gameI pr1.poll 0 hF2 (by decide) (by decide) (by decide) (by decide) (by rw [hd.2.1]; decide)
  have hTk := fun x => PTkL_T x gameI pr1.poll
  have hGv := fun x => PGiven_T x gameI pr1.poll.poll
  have hSt := fun x => PStage_T x gameI pr1.poll.poll
  have hg3 : pr1.poll.poll.g = 2 ∧ pr1.poll.poll.st = 2 := ⟨rfl, rfl⟩
  have hEn := PEnter_T []
  rw [hd.1] at hP1
  rw [hd.2.1] at hP2
  rw [hg3.1] at hGv
  rw [hg3.2] at hSt
  simp only [fdGame, u64c, i64c, List.map_cons, List.map_nil, List.length_cons, List.length_nil, Nat.zero_add] at hG hB' hTk hGv hSt hEn
  generalize pr1.poll.poll = Q3 at *
  generalize pr1.poll = Q2 at *
  generalize pr1 = Q1 at *
  simp [i64c, i64v, u32v, u64c]
  refine callT_eq [] hG ?_
  simp [i64c, i64v, u32v, u64c]
  refine callT_exa [(4000, 4000), (4002, 4002), (4003, 4003), (4005, 4005), (2000, 2000), (2001, 2001), (2002, 2002), (2003, 2003), (2004, 2004), (2005, 2005), (2006, 2006)] hB' ?_
  simp [i64c, i64v, u32v, u64c]
  intro x
  refine callT_ex [(4000, 4000), (4002, 4002), (4003, 4003), (4005, 4005), (2000, 2000), (2001, 2001), (2002, 2002), (2003, 2003), (2004, 2004), (2005, 2005), (2006, 2006)] (hP1 x) ?_
  simp [i64c, i64v, u32v, u64c]
  refine fun u => ⟨(givesL_clo _ _ _).1, callT_eq [(4000, 4000), (4002, 4002), (4003, 4003), (4005, 4005), (2000, 2000), (2001, 2001), (2002, 2002), (2003, 2003), (2004, 2004), (2005, 2005), (2006, 2006)] (hTk { x with q := u }) ?_⟩
  simp [i64c, i64v, u32v, u64c]
  refine callT_ex [(4000, 4000), (4002, 4002), (4003, 4003), (4005, 4005), (2000, 2000), (2001, 2001), (2002, 2002), (2003, 2003), (2004, 2004), (2005, 2005), (2006, 2006)] (hP2 { x with q := u }) ?_
  simp [i64c, i64v, u32v, u64c]
  refine fun u2 => ⟨(givesL_clo _ _ _).1, callT_eq [(4000, 4000), (4002, 4002), (4003, 4003), (4005, 4005), (2000, 2000), (2001, 2001), (2002, 2002), (2003, 2003), (2004, 2004), (2005, 2005), (2006, 2006)] (hGv { x with q := u2 }) ?_⟩
  simp [i64c, i64v, u32v, u64c]
  refine callT_eq [(4000, 4000), (4002, 4002), (4003, 4003), (4005, 4005), (2000, 2000), (2001, 2001), (2002, 2002), (2003, 2003), (2004, 2004), (2005, 2005), (2006, 2006)] (hSt { x with q := u2 }) ?_
  simp [i64c, i64v, u32v, u64c]
  refine callT.pre (fn_of hEn) (CLx.weak 0 (.agg [.isl [] 0]) rfl RV_nilA (CLx.done ?_))
  simp [i64c, i64v, u32v, u64c]
  refine callT_exa [(4000, 4100), (4002, 4102), (4003, 4103), (4004, 4104), (4005, 4105)] hEn ?_
  simp [i64c, i64v, u32v, u64c, gth0]
  rfl
end Go.Proofs.YtnkdkajllmopaaaGreat.TL
