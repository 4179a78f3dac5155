/- Folds: snapshots, records in the making, the reference's fold. -/
import Derived.Test.YtgkhedmjkahclaaGreatDoorUFPl
import Derived.Test.YtgkhedmjkahclaaGreatDoorURecO
import Derived.Test.YtgkhedmjkahclaaGreatDoorUPcR
namespace Go.Proofs.YtgkhedmjkahclaaGreatDoor.TL
open Go
set_option linter.unusedVariables false
set_option linter.unusedSimpArgs false

/-- A snapshot's bytes. -/
def fdB (F : Fd) : List UInt8 := F.r.bytes ++ (nb F.pt.toNat ++ (nb F.pd.toNat ++ (nb (wdB F.W).length ++ wdB F.W)))
structure Fd.Ok (F : Fd) (n : Int) : Prop where
  w : F.W.Ok (40000000 * n)
  R : F.W.R
  s : F.r.s < 2 ^ 32
  e0 : 0 ≤ F.r.e
  e : F.r.e ≤ 8 * n
  p : pchk F.pt F.pd = 0
theorem pchk_0 {a b : Int} (h : pchk a b = 0) : (1 ≤ a ∧ a ≤ 64) ∧ 1 ≤ b ∧ b ≤ 6 := by
  unfold pchk at h
  split at h
  · cases h
  · omega
theorem Rbytes_len {r : Ros} (hs : r.s < 2 ^ 32) (he : 0 ≤ r.e) (he2 : r.e ≤ 9223372036854775807) : r.bytes.length ≤ 20 := by
  have h1 := nb_len10 (n := r.s) (by omega)
  have h2 := nb_len10 (n := r.e.toNat) (by omega)
  simp only [Ros.bytes, List.length_append]
  omega

set_option maxHeartbeats 1000000 in
set_option maxRecDepth 100000 in
theorem FSnap_T (v : Nat) (V : Vs) (u : Nat) (I : List Fn) (F : Fd) (n : Int) (h : F.Ok n) (hn : n ≤ 10000) :
    callT Tryz.prog 9 [.at 2000 v 0] ⟨[], fdH v V u I F⟩ (fun x h => x = .v (.string (bs (fdB F))) ∧ h = fdH v V u I F) := by
  refine callT_of_body [0, 2, 3] [2000, 2001, 2002, 2003, 2004, 2005, 2006] Tryz.func9 rfl (by decide) (by kernel_rfl) rfl ?_
  have hp := pchk_0 h.p
  have he := h.e
  have he0 := h.e0
  have hs := h.s
  have hl := Rbytes_len hs he0 (by omega)
  have hwl := wdB_len h.w (by omega) h.R
  have h1 := nb_len10 (n := F.pt.toNat) (by omega)
  have h2 := nb_len10 (n := F.pd.toNat) (by omega)
  simp [i64v, i64c, u32v]
  intro v3
  have hq := fun u b hb => RPut_T v3 u b F.r h.s h.e0 (by omega) hb
  simp only [Ros.cells, u32v, i64c] at hq
  refine callT.pre (fn_of (hq 0 [] (by simp))) (CLx.nilCell 3 0 1001 1 (by decide) (by decide) rfl rfl fun u1 => CLx.done ?_)
  simp
  refine callT_ex [(1000, 3), (1001, 1001)] (hq u1 [] (by simp)) ?_
  simp [i64v]
  intro u2
  refine draw_g [0, 1, 2, 3, 4, 5, 6, 7, 8, 9, 10, 12, 13, 14, 15, 11] 16 [(11, [0, 1, 2, 3, 4, 5, 6, 7, 8, 9, 10])] (by kernel_rfl) (by kernel_rfl) (by kernel_rfl) ?_
  simp [i64v]
  have hC := OutCount_T v3 u2 F.r.bytes [F.pt, F.pd] (by simp; omega) (by simp; omega)
  simp only [List.map_cons, List.map_nil, i64c, List.length_cons, List.length_nil] at hC
  refine callT_ex [(1000, 3), (1001, 1001)] hC ?_
  simp [i64v]
  intro u3
  refine callT_eq [(2001, 2001), (2002, 2002), (2003, 2003), (2004, 2004), (2005, 2005), (2006, 2006)] (WText_T V u I F.W _ h.w (by omega) h.R) ?_
  simp [i64v]
  have hS := OutStr_T v3 u3 (F.r.bytes ++ nbs [F.pt.toNat, F.pd.toNat]) (wdB F.W) (by simp [nbs]; omega) (by omega)
  intro v26
  refine callT.pre (fn_of hS) (CLx.frz 26 rfl (CLx.done ?_))
  simp
  refine callT_ex [(1000, 3), (1001, 1001)] hS ?_
  simp [i64v]
  intro u4
  refine callT_eq [(1000, 3), (1001, 1001)] (OutText_T v3 u4 (F.r.bytes ++ nbs [F.pt.toNat, F.pd.toNat] ++ (nb (wdB F.W).length ++ wdB F.W))) ?_
  simp [fdB, nbs, i64v, i64c, u32v, Nat.add_assoc]

def rSt (w : Ros) (pt pd t : Int) : List TV := [.isl ((w.all 32).map i64c) (w.all 32).length, i64c w.e, i64c pt, i64c pd, i64c t]
set_option maxHeartbeats 1000000 in
set_option maxRecDepth 100000 in
theorem RText22_T (w : Ros) (pt pd t : Int) (s : List UInt8) (hs : w.s < 2 ^ 32) (he : 0 ≤ w.e) (he2 : w.e ≤ 9223372036854775807) (hp : pchk pt pd = 0) (hl : s.length ≤ 1000000) :
    callT Tryz.prog 38 [.agg (rSt w pt pd t), .v (.string (bs s))] ⟨[], []⟩ (fun x h => x = .v (.string (bs (w.bytes ++ (nb pt.toNat ++ (nb pd.toNat ++ (nb s.length ++ s)))))) ∧ h = []) := by
  refine callT_of_body [0, 1, 2, 4] [] Tryz.func38 rfl (by decide) (by kernel_rfl) rfl ?_
  have hp := pchk_0 hp
  have hT := RTextR_T w hs he he2
  have h1 := CountR_T pt (by omega)
  have h2 := CountR_T pd (by omega)
  have l1 := Rbytes_len hs he he2
  have l2 := nb_len10 (n := pt.toNat) (by omega)
  have l3 := nb_len10 (n := pd.toNat) (by omega)
  have l4 := nb_len10 (n := s.length) (by omega)
  simp only [rRos, rosL, i64c] at hT
  simp [rSt, i64c]
  intro v2
  refine draw_g [0, 1, 3, 4, 5, 8, 9, 10, 13, 2, 6, 7, 11, 12, 14] 15 [(2, [0, 1]), (6, [0, 1, 2, 3, 4, 5]), (11, [0, 1, 2, 3, 4, 5, 6, 8, 9, 10]), (14, [0, 1, 2, 3, 4, 5, 6, 8, 9, 10, 11, 13])] (by kernel_rfl) (by kernel_rfl) (by kernel_rfl) ?_
  simp
  refine callT_eq [] hT ?_
  simp
  refine callT_eq [] h1 ?_
  simp
  refine ⟨by omega, ?_⟩
  refine callT_eq [] h2 ?_
  simp
  refine ⟨by omega, ?_⟩
  refine ⟨by omega, ?_⟩
  refine callT_eq [] (StrR_T s hl) ?_
  simp
  omega

/-- The reference's state behind a record, the error's number. -/
def rApp (w : Ros) (pt pd t : Int) (r : Rec) : List TV × Int :=
  if r.chk t w ≠ 0 then (rSt w pt pd t, r.chk t w) else (rSt (r.ros w).1 (if 0 < r.pt then r.pt else pt) (if 0 < r.pt then r.pd else pd) (t + 1), 0)
set_option maxHeartbeats 1000000 in
set_option maxRecDepth 100000 in
theorem RApp22_T (w : Ros) (pt pd t : Int) (r : Rec) (hs : w.s < 2 ^ 32) (hr : r.sz) (he : 0 ≤ w.e) (he2 : w.e ≤ 9223372036853775000) (ht : 0 ≤ t) (ht2 : t ≤ 9223372036853775000) :
    callT Tryz.prog 11 [.agg (rSt w pt pd t), .agg r.cells] ⟨[], []⟩ (fun x h => x = .tup [.agg (rApp w pt pd t r).1, i64c (rApp w pt pd t r).2] ∧ h = []) := by
  refine callT_of_body [0, 1, 2, 3, 4, 5, 6, 8, 15, 35] [] Tryz.func11 rfl (by decide) (by kernel_rfl) rfl ?_
  have hC := RChk20_T r t w hs hr he he2
  have hR := RRos20_T r w hs hr he he2
  have e1 : IntKind.i64.wrap (t + 1) = t + 1 := i64_id (by omega) (by omega)
  unfold rApp
  generalize r.chk t w = c at hC ⊢
  generalize r.ros w = q at hR ⊢
  obtain ⟨rt, rc, rpt, rpd, rl⟩ := r
  simp only [Rec.cells, rosK, i64c] at hC hR
  by_cases hc : c = 0
  · subst hc
    by_cases h1 : 0 < rpt
    · simp [rSt, Rec.cells, i64c, h1]
      intro v2 v3 v4
      refine callT_eq [] hC ?_
      simp [i64c]
      refine callT_eq [] hR ?_
      simp [i64c, rosK, h1, e1]
    · simp [rSt, Rec.cells, i64c, h1]
      intro v2 v3 v4
      refine callT_eq [] hC ?_
      simp [i64c]
      refine callT_eq [] hR ?_
      simp [i64c, rosK, h1, e1]
  · simp [rSt, Rec.cells, i64c, hc]
    intro v2 v3 v4
    refine callT_eq [] hC ?_
    simp [i64c, hc]
    refine draw_g [0, 1, 2, 3, 4, 5, 6] 7 [(6, [1, 2, 3, 4, 5])] (by kernel_rfl) (by kernel_rfl) (by kernel_rfl) ?_
    simp
    refine callT_eq [] hC ?_
    simp [i64c, hc]

set_option maxHeartbeats 1000000 in
set_option maxRecDepth 100000 in
theorem Is22_T (v : Nat) (V : Vs) (u : Nat) (I : List Fn) (F : Fd) (n : Int) (h : F.Ok n) (hn : n ≤ 10000) :
    callT Tryz.prog 13 [.at 2000 v 0, .agg (rSt F.r F.pt F.pd F.W.turn)] ⟨[], fdH v V u I F⟩ (fun x h => x = i64c 0 ∧ h = fdH v V u I F) := by
  refine callT_of_body [0, 1, 3, 4, 39] [2000, 2001, 2002, 2003, 2004, 2005, 2006] Tryz.func13 rfl (by decide) (by kernel_rfl) rfl ?_
  have hI := Is_T F.r h.s
  have hRo := FRos_T v V u I F
  have hPa := FPace_T v V u I F
  have hTu := WTurn_T V u I F.W
  have hSn := FSnap_T v V u I F n h hn
  have hTx := WText_T V u I F.W _ h.w (by omega) h.R
  have he := h.e
  have hRT := RText22_T F.r F.pt F.pd F.W.turn (wdB F.W) h.s h.e0 (by omega) h.p (by have := wdB_len h.w (by omega) h.R; omega)
  simp only [rSt, Ros.cells, rRos, i64c, u32v] at hI hRo hPa hTu hSn hRT
  simp [rSt, i64v, i64c, u32v]
  intro v3
  refine draw_g [0, 2, 3, 1, 4, 5, 6, 7, 9, 10, 8, 11, 12, 13, 14, 15, 16, 17, 19, 20, 18, 21, 22, 23, 24, 26, 27, 28, 29, 30, 25, 31] 32 [(1, [0]), (4, [0, 1, 2, 3]), (8, [0, 1, 2, 3, 4, 5, 6, 7]), (18, [0, 1, 2, 3, 4, 5, 6, 7, 8, 9, 10, 11, 12, 13, 14, 15, 16, 17]), (25, [0, 1, 2, 3, 4, 5, 6, 7, 8, 9, 10, 11, 12, 13, 14, 15, 16, 17, 18, 19, 20, 21, 22, 23, 24]), (31, [0, 1, 2, 3, 4, 5, 6, 7, 8, 9, 10, 11, 12, 13, 14, 15, 16, 17, 18, 19, 20, 21, 22, 23, 24, 25, 27, 28, 29, 30])] (by kernel_rfl) (by kernel_rfl) (by kernel_rfl) ?_
  simp [i64v, i64c, u32v]
  refine callT_eq [(2000, 2000), (2001, 2001), (2002, 2002), (2003, 2003), (2004, 2004), (2005, 2005), (2006, 2006)] hRo ?_
  simp [i64v, i64c, u32v]
  refine callT_eq [] hI ?_
  simp [i64v, i64c, u32v]
  refine callT_eq [(2000, 2000), (2001, 2001), (2002, 2002), (2003, 2003), (2004, 2004), (2005, 2005), (2006, 2006)] hPa ?_
  simp [i64v, i64c, u32v]
  refine callT_eq [(2001, 2001), (2002, 2002), (2003, 2003), (2004, 2004), (2005, 2005), (2006, 2006)] hTu ?_
  simp [i64v, i64c, u32v]
  refine callT_eq [(2000, 2000), (2001, 2001), (2002, 2002), (2003, 2003), (2004, 2004), (2005, 2005), (2006, 2006)] hSn ?_
  simp [i64v, i64c, u32v]
  refine callT_eq [(2001, 2001), (2002, 2002), (2003, 2003), (2004, 2004), (2005, 2005), (2006, 2006)] hTx ?_
  simp [i64v, i64c, u32v]
  refine callT_eq [] hRT ?_
  simp [i64v, i64c, u32v, fdB]

@[simp] theorem rowB_clo8 : ∀ L : List (List Ord), CloL (rowB L)
  | [] => trivial
  | b :: L => ⟨rowC_CloL b, rowB_clo8 L⟩
/-- A record in the making. -/
structure Stp where
  c : List Chg
  o : Bool
  a : Int
  b : Int
  l : List (List Ord)
  t : Int
def Stp.cells (x : Stp) : List TV := [.isl (rowG x.c) x.c.length, .v (.bool x.o), i64c x.a, i64c x.b, .isl (rowB x.l) x.l.length, i64c x.t]
def mkA (x : Stp) (r : Rec) : Rec := if x.o then { r with pt := 1 + bits .and .i64 x.a 63, pd := 1 + (bits .and .i64 x.b 255).tmod 6 } else r
def mkB (x : Stp) (r : Rec) : Rec := if x.t = 1 then { r with t := r.t + 1 } else if x.t = 2 then { r with l := r.l.drop 1 } else if x.t = 3 then { r with pt := x.a, pd := x.b } else r
def mkR (F : Fd) (x : Stp) : Rec := mkB x (mkA x (fit F.W.turn F.r x.c (x.l.take 8)))

set_option maxHeartbeats 4000000 in
set_option maxRecDepth 100000 in
theorem Make22_T (v : Nat) (V : Vs) (u : Nat) (I : List Fn) (F : Fd) (n : Int) (h : F.Ok n) (hn : n ≤ 10000) (x : Stp) (hc : x.c.length ≤ maxLen) :
    callT Tryz.prog 8 [.at 2000 v 0, .agg x.cells] ⟨[], fdH v V u I F⟩ (fun y h => y = .agg (mkR F x).cells ∧ h = fdH v V u I F) := by
  refine callT_of_body [0, 1, 3, 4, 5, 6, 11, 26, 39, 40, 46, 51, 56] [2000, 2001, 2002, 2003, 2004, 2005, 2006] Tryz.func8 rfl (by decide) (by kernel_rfl) rfl ?_
  have hTu := WTurn_T V u I F.W
  have hRo := FRos_T v V u I F
  have hfit := Fit_T F.W.turn F.r x.c (x.l.take 8) h.s h.e0 (by have := h.e; omega) hc
  have htn : 0 ≤ F.W.turn ∧ F.W.turn ≤ 1000000000000 := by have := h.w.sm F.W.turn (by simp); omega
  have hft : (fit F.W.turn F.r x.c (x.l.take 8)).t = F.W.turn := rfl
  have e1 : IntKind.i64.wrap (F.W.turn + 1) = F.W.turn + 1 := i64_id (by omega) (by omega)
  have ha : 0 ≤ bits .and .i64 x.a 63 ∧ bits .and .i64 x.a 63 ≤ 63 := i64_and_le x.a 63 (by decide)
  have hb := i64_and_le x.b 255 (by decide)
  have hm : 0 ≤ (bits .and .i64 x.b 255).tmod 6 ∧ (bits .and .i64 x.b 255).tmod 6 < 6 := ⟨Int.tmod_nonneg 6 hb.1, Int.tmod_lt_of_pos _ (by decide)⟩
  have e2 := (fun (m : Int) (h : 0 ≤ m ∧ m ≤ 63) => (i64_id (by omega) (by omega) : IntKind.i64.wrap (1 + m) = 1 + m)) _ ha
  have e3 := (fun (m : Int) (h : 0 ≤ m ∧ m < 6) => (i64_id (by omega) (by omega) : IntKind.i64.wrap (1 + m) = 1 + m)) _ hm
  clear ha hb hm
  unfold mkR
  generalize fit F.W.turn F.r x.c (x.l.take 8) = f at hfit hft ⊢
  obtain ⟨xc, xo, xa, xb, xl, xt⟩ := x
  obtain ⟨ft, fc, fpt, fpd, fl⟩ := f
  simp only at hft
  subst hft
  simp only [Ros.cells, Rec.cells, i64c, u32v] at hTu hRo hfit
  by_cases h8 : 8 < xl.length
  · have h8' : (8 : Int) < xl.length := by omega
    have e8 : List.take 8 (rowB xl) = rowB (List.take 8 xl) := by simp [rowB, List.map_take]
    have e9 : (List.take 8 xl).length = 8 := by simp; omega
    have e7 : CloL (List.take 8 (rowB xl)) := by rw [e8]; exact rowB_clo8 _
    rw [← e8, e9] at hfit
    simp [Stp.cells, i64v, i64c, u32v, h8, h8']
    refine fun v3 v4 => ⟨by omega, ?_⟩
    refine drawT_cut (α := Nat) (fun _ => True) (fun x => ⟨[(0, .at 2000 v 0), (3, .at 3 v3 0), (4, .at 4 v4 0), (6, .at 6 x 0)], [(3, v3, ⟨0, [.isl (rowG xc) xc.length, .v (.bool xo), i64c xa, i64c xb, .isl (rowB xl) xl.length, i64c xt]⟩), (4, v4, ⟨0, [i64c 0, .v (.slice none 0 0), i64c 0, i64c 0, .v (.slice none 0 0)]⟩), (6, x, ⟨0, [i64c F.W.turn, .isl (rowG fc) fc.length, i64c fpt, i64c fpd, .isl (rowP fl) fl.length]⟩)] ++ fdH v V u I F⟩) ?_ ?_
    · refine draw_h (pl [0, 1, 2, 3, 5, 7, 8, 9] (.alt 4 (pl [] (.alt 6 (pl [] (.alt 10 (pl [11] .nil) 11 (pl [10] .nil))) 11 (pl [6, 10] .nil))) 11 (pl [4, 6, 10] .nil))) 12 [(4, [0, 1, 2, 3]), (6, [0, 1, 2, 3, 4, 5]), (10, [0, 1, 2, 3, 4, 5, 6, 7, 8, 9]), (11, [])] (by kernel_rfl) (by kernel_rfl) (by kernel_rfl) (by kernel_rfl) ?_
      simp [i64v, i64c, u32v, e7]
      refine ⟨?_, fun v6 => ?_⟩
      · refine callT_eq [(2001, 2001), (2002, 2002), (2003, 2003), (2004, 2004), (2005, 2005), (2006, 2006)] hTu ?_
        simp [i64v, i64c, u32v, e7]
        refine ⟨?_, fun v6 => ?_⟩
        · refine callT_eq [(2000, 2000), (2001, 2001), (2002, 2002), (2003, 2003), (2004, 2004), (2005, 2005), (2006, 2006)] hRo ?_
          simp [i64v, i64c, u32v, e7]
          refine ⟨?_, fun v6 => ?_⟩
          · refine callT_eq [] hfit ?_
            simp [i64v, i64c, u32v, e7]
            intro v6
            refine SLx.at v6 trivial (by simp [i64v, i64c, u32v, e7]) (by simp [i64v, i64c, u32v, e7])
          · refine callT_eq [] hfit ?_
            simp [i64v, i64c, u32v, e7]
            refine SLx.at v6 trivial (by simp [i64v, i64c, u32v, e7]) (by simp [i64v, i64c, u32v, e7])
        · refine callT_eq [(2000, 2000), (2001, 2001), (2002, 2002), (2003, 2003), (2004, 2004), (2005, 2005), (2006, 2006)] hRo ?_
          simp [i64v, i64c, u32v, e7]
          refine callT_eq [] hfit ?_
          simp [i64v, i64c, u32v, e7]
          refine SLx.at v6 trivial (by simp [i64v, i64c, u32v, e7]) (by simp [i64v, i64c, u32v, e7])
      · refine callT_eq [(2001, 2001), (2002, 2002), (2003, 2003), (2004, 2004), (2005, 2005), (2006, 2006)] hTu ?_
        simp [i64v, i64c, u32v, e7]
        refine callT_eq [(2000, 2000), (2001, 2001), (2002, 2002), (2003, 2003), (2004, 2004), (2005, 2005), (2006, 2006)] hRo ?_
        simp [i64v, i64c, u32v, e7]
        refine callT_eq [] hfit ?_
        simp [i64v, i64c, u32v, e7]
        refine SLx.at v6 trivial (by simp [i64v, i64c, u32v, e7]) (by simp [i64v, i64c, u32v, e7])
    · rintro v6 -
      by_cases t1 : xt = 1
      · subst t1
        cases xo <;> simp [mkA, mkB, Rec.cells, i64c, i64v, u32v, e1, e2, e3]
      by_cases t2 : xt = 2
      · subst t2
        cases fl with
        | nil => cases xo <;> simp [mkA, mkB, Rec.cells, i64c, i64v, u32v, e1, e2, e3]
        | cons p fl =>
          have hl' : (0 : Int) < ((p :: fl).length : Nat) := by simp only [List.length_cons]; omega
          have hd : List.drop 2 (p.cells ++ rowP fl) = rowP fl := rfl
          have htk : List.take (fl.length * 2) (rowP fl) = rowP fl := List.take_of_length_le (by simp)
          cases xo <;> simp [mkA, mkB, Rec.cells, i64c, i64v, u32v, e1, e2, e3, hl', hd, htk, show p.cells.length = 2 from rfl] <;> omega
      by_cases t3 : xt = 3
      · subst t3
        cases xo <;> simp [mkA, mkB, Rec.cells, i64c, i64v, u32v, e1, e2, e3]
      · cases xo <;> simp [mkA, mkB, Rec.cells, i64c, i64v, u32v, e1, e2, e3, t1, t2, t3]
  · have h8' : ¬ (8 : Int) < xl.length := by omega
    have e7 : CloL (rowB xl) := rowB_clo8 xl
    rw [List.take_of_length_le (by omega)] at hfit
    simp [Stp.cells, i64v, i64c, u32v, h8, h8']
    intro v3 v4
    refine drawT_cut (α := Nat) (fun _ => True) (fun x => ⟨[(0, .at 2000 v 0), (3, .at 3 v3 0), (4, .at 4 v4 0), (6, .at 6 x 0)], [(3, v3, ⟨0, [.isl (rowG xc) xc.length, .v (.bool xo), i64c xa, i64c xb, .isl (rowB xl) xl.length, i64c xt]⟩), (4, v4, ⟨0, [i64c 0, .v (.slice none 0 0), i64c 0, i64c 0, .v (.slice none 0 0)]⟩), (6, x, ⟨0, [i64c F.W.turn, .isl (rowG fc) fc.length, i64c fpt, i64c fpd, .isl (rowP fl) fl.length]⟩)] ++ fdH v V u I F⟩) ?_ ?_
    · refine draw_h (pl [0, 1, 2, 3, 5, 7, 8, 9] (.alt 4 (pl [] (.alt 6 (pl [] (.alt 10 (pl [11] .nil) 11 (pl [10] .nil))) 11 (pl [6, 10] .nil))) 11 (pl [4, 6, 10] .nil))) 12 [(4, [0, 1, 2, 3]), (6, [0, 1, 2, 3, 4, 5]), (10, [0, 1, 2, 3, 4, 5, 6, 7, 8, 9]), (11, [])] (by kernel_rfl) (by kernel_rfl) (by kernel_rfl) (by kernel_rfl) ?_
      simp [i64v, i64c, u32v, e7]
      refine ⟨?_, fun v6 => ?_⟩
      · refine callT_eq [(2001, 2001), (2002, 2002), (2003, 2003), (2004, 2004), (2005, 2005), (2006, 2006)] hTu ?_
        simp [i64v, i64c, u32v, e7]
        refine ⟨?_, fun v6 => ?_⟩
        · refine callT_eq [(2000, 2000), (2001, 2001), (2002, 2002), (2003, 2003), (2004, 2004), (2005, 2005), (2006, 2006)] hRo ?_
          simp [i64v, i64c, u32v, e7]
          refine ⟨?_, fun v6 => ?_⟩
          · refine callT_eq [] hfit ?_
            simp [i64v, i64c, u32v, e7]
            intro v6
            refine SLx.at v6 trivial (by simp [i64v, i64c, u32v, e7]) (by simp [i64v, i64c, u32v, e7])
          · refine callT_eq [] hfit ?_
            simp [i64v, i64c, u32v, e7]
            refine SLx.at v6 trivial (by simp [i64v, i64c, u32v, e7]) (by simp [i64v, i64c, u32v, e7])
        · refine callT_eq [(2000, 2000), (2001, 2001), (2002, 2002), (2003, 2003), (2004, 2004), (2005, 2005), (2006, 2006)] hRo ?_
          simp [i64v, i64c, u32v, e7]
          refine callT_eq [] hfit ?_
          simp [i64v, i64c, u32v, e7]
          refine SLx.at v6 trivial (by simp [i64v, i64c, u32v, e7]) (by simp [i64v, i64c, u32v, e7])
      · refine callT_eq [(2001, 2001), (2002, 2002), (2003, 2003), (2004, 2004), (2005, 2005), (2006, 2006)] hTu ?_
        simp [i64v, i64c, u32v, e7]
        refine callT_eq [(2000, 2000), (2001, 2001), (2002, 2002), (2003, 2003), (2004, 2004), (2005, 2005), (2006, 2006)] hRo ?_
        simp [i64v, i64c, u32v, e7]
        refine callT_eq [] hfit ?_
        simp [i64v, i64c, u32v, e7]
        refine SLx.at v6 trivial (by simp [i64v, i64c, u32v, e7]) (by simp [i64v, i64c, u32v, e7])
    · rintro v6 -
      by_cases t1 : xt = 1
      · subst t1
        cases xo <;> simp [mkA, mkB, Rec.cells, i64c, i64v, u32v, e1, e2, e3]
      by_cases t2 : xt = 2
      · subst t2
        cases fl with
        | nil => cases xo <;> simp [mkA, mkB, Rec.cells, i64c, i64v, u32v, e1, e2, e3]
        | cons p fl =>
          have hl' : (0 : Int) < ((p :: fl).length : Nat) := by simp only [List.length_cons]; omega
          have hd : List.drop 2 (p.cells ++ rowP fl) = rowP fl := rfl
          have htk : List.take (fl.length * 2) (rowP fl) = rowP fl := List.take_of_length_le (by simp)
          cases xo <;> simp [mkA, mkB, Rec.cells, i64c, i64v, u32v, e1, e2, e3, hl', hd, htk, show p.cells.length = 2 from rfl] <;> omega
      by_cases t3 : xt = 3
      · subst t3
        cases xo <;> simp [mkA, mkB, Rec.cells, i64c, i64v, u32v, e1, e2, e3]
      · cases xo <;> simp [mkA, mkB, Rec.cells, i64c, i64v, u32v, e1, e2, e3, t1, t2, t3]
end Go.Proofs.YtgkhedmjkahclaaGreatDoor.TL
