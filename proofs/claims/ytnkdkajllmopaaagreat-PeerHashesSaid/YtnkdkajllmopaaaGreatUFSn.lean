/- Folds: the reference's records that are applied, snapshots. -/
/- Folds: snapshots, records in the making, the reference's fold. -/
/- The law FoldPlays, as the code runs. -/
/- A state, restored of its snapshot, is that state. -/
import Derived.Test.YtnkdkajllmopaaaGreatUFMay
import Derived.Test.YtnkdkajllmopaaaGreatURosR
import Derived.Test.YtnkdkajllmopaaaGreatUWChk
import Derived.Test.YtnkdkajllmopaaaGreatURecN
import Derived.Test.YtnkdkajllmopaaaGreatUPc
import Derived.Test.YtnkdkajllmopaaaGreatUWRst
namespace Go.Proofs.YtnkdkajllmopaaaGreat.TL
open Go
set_option linter.unusedVariables false
set_option linter.unusedSimpArgs false

def rosK (w : Ros) : List TV := [.isl ((w.all 32).map i64c) (w.all 32).length, i64c w.e]
theorem pls_len (l : List Ply) : (pls l).length = l.length := by simp [pls]
theorem getElem_pls {l : List Ply} {k : Nat} (h : k < l.length) : (pls l)[k]'(by rw [pls_len]; exact h) = l[k].p := by simp [pls]
theorem pls_eq {l : List Ply} {A : List Int} (hl : l.length = A.length) (h : ∀ i (h1 : i < l.length) (h2 : i < A.length), l[i].p = A[i]) : pls l = A :=
  List.ext_getElem (by simp [pls, hl]) fun i h1 h2 => by simp [pls]; exact h i (by simpa [pls] using h1) h2
theorem pchk_4 {a b : Int} (h : pchk a b ≠ 0) : pchk a b = 4 := by
  by_cases h4 : a < 1 ∨ 64 < a ∨ b < 1 ∨ 6 < b
  · unfold pchk; rw [if_pos h4]
  · exact absurd (by unfold pchk; rw [if_neg h4]) h

end Go.Proofs.YtnkdkajllmopaaaGreat.TL
namespace Go.Proofs.YtnkdkajllmopaaaGreat.TL
open Go
set_option linter.unusedVariables false
set_option linter.unusedSimpArgs false

/-- A snapshot's bytes. -/
def fdB (F : Fd) : List UInt8 := F.r.bytes ++ (nb F.pt.toNat ++ (nb F.pd.toNat ++ (nb (wdB F.W).length ++ wdB F.W)))
structure Fd.Ok (F : Fd) (n : Int) : Prop where
  w : F.W.Ok (40000000 * n)
  R : F.W.R
  s : F.r.s < 2 ^ 32
  e0 : 0 ≤ F.r.e
  e : F.r.e ≤ 8 * n
  p : pchk F.pt F.pd = 0
theorem pchk_0 {a b : Int} (h : pchk a b = 0) : (1 ≤ a ∧ a ≤ 64) ∧ 1 ≤ b ∧ b ≤ 6 := by
  unfold pchk at h
  split at h
  · cases h
  · omega
theorem Rbytes_len {r : Ros} (hs : r.s < 2 ^ 32) (he : 0 ≤ r.e) (he2 : r.e ≤ 9223372036854775807) : r.bytes.length ≤ 20 := by
  have h1 := nb_len10 (n := r.s) (by omega)
  have h2 := nb_len10 (n := r.e.toNat) (by omega)
  simp only [Ros.bytes, List.length_append]
  omega

set_option maxHeartbeats 1000000 in
set_option maxRecDepth 100000 in
theorem FSnap_T (v : Nat) (V : Vs) (u : Nat) (I : List Fn) (F : Fd) (n : Int) (h : F.Ok n) (hn : n ≤ 10000) :
    callT Tryz.prog 18 [.at 2000 v 0] ⟨[], fdH v V u I F⟩ (fun x h => x = .v (.string (bs (fdB F))) ∧ h = fdH v V u I F) := by
  refine callT_of_body [0, 2, 3] [2000, 2001, 2002, 2003, 2004, 2005, 2006] Tryz.func18 rfl (by decide) (by kernel_rfl) rfl ?_
  have hp := pchk_0 h.p
  have he := h.e
  have he0 := h.e0
  have hs := h.s
  have hl := Rbytes_len hs he0 (by omega)
  have hwl := wdB_len h.w (by omega) h.R
  have h1 := nb_len10 (n := F.pt.toNat) (by omega)
  have h2 := nb_len10 (n := F.pd.toNat) (by omega)
  simp [i64v, i64c, u32v]
  intro v3
  have hq := fun u b hb => RPut_T v3 u b F.r h.s h.e0 (by omega) hb
  simp only [Ros.cells, u32v, i64c] at hq
  refine callT.pre (fn_of (hq 0 [] (by simp))) (CLx.nilCell 3 0 1001 1 (by decide) (by decide) rfl rfl fun u1 => CLx.done ?_)
  simp
  refine callT_ex [(1000, 3), (1001, 1001)] (hq u1 [] (by simp)) ?_
  simp [i64v]
  intro u2
  refine draw_g [0, 1, 2, 3, 4, 5, 6, 7, 8, 9, 10, 12, 13, 14, 15, 11] 16 [(11, [0, 1, 2, 3, 4, 5, 6, 7, 8, 9, 10])] (by kernel_rfl) (by kernel_rfl) (by kernel_rfl) ?_
  simp [i64v]
  have hC := OutCount_T v3 u2 F.r.bytes [F.pt, F.pd] (by simp; omega) (by simp; omega)
  simp only [List.map_cons, List.map_nil, i64c, List.length_cons, List.length_nil] at hC
  refine callT_ex [(1000, 3), (1001, 1001)] hC ?_
  simp [i64v]
  intro u3
  refine callT_eq [(2001, 2001), (2002, 2002), (2003, 2003), (2004, 2004), (2005, 2005), (2006, 2006)] (WText_T V u I F.W _ h.w (by omega) h.R) ?_
  simp [i64v]
  have hS := OutStr_T v3 u3 (F.r.bytes ++ nbs [F.pt.toNat, F.pd.toNat]) (wdB F.W) (by simp [nbs]; omega) (by omega)
  intro v26
  refine callT.pre (fn_of hS) (CLx.frz 26 rfl (CLx.done ?_))
  simp
  refine callT_ex [(1000, 3), (1001, 1001)] hS ?_
  simp [i64v]
  intro u4
  refine callT_eq [(1000, 3), (1001, 1001)] (OutText_T v3 u4 (F.r.bytes ++ nbs [F.pt.toNat, F.pd.toNat] ++ (nb (wdB F.W).length ++ wdB F.W))) ?_
  simp [fdB, nbs, i64v, i64c, u32v, Nat.add_assoc]

def rSt (w : Ros) (pt pd t : Int) : List TV := [.isl ((w.all 32).map i64c) (w.all 32).length, i64c w.e, i64c pt, i64c pd, i64c t]
/-- The reference's state behind a record, the error's number. -/
def rApp (w : Ros) (pt pd t : Int) (r : Rec) : List TV × Int :=
  if r.chk t w ≠ 0 then (rSt w pt pd t, r.chk t w) else (rSt (r.ros w).1 (if 0 < r.pt then r.pt else pt) (if 0 < r.pt then r.pd else pd) (t + 1), 0)
@[simp] theorem rowB_clo8 : ∀ L : List (List Ord), CloL (rowB L)
  | [] => trivial
  | b :: L => ⟨rowC_CloL b, rowB_clo8 L⟩
/-- A record in the making. -/
structure Stp where
  c : List Chg
  o : Bool
  a : Int
  b : Int
  l : List (List Ord)
  t : Int
def Stp.cells (x : Stp) : List TV := [.isl (rowG x.c) x.c.length, .v (.bool x.o), i64c x.a, i64c x.b, .isl (rowB x.l) x.l.length, i64c x.t]
def mkA (x : Stp) (r : Rec) : Rec := if x.o then { r with pt := 1 + bits .and .i64 x.a 63, pd := 1 + (bits .and .i64 x.b 255).tmod 6 } else r
def mkB (x : Stp) (r : Rec) : Rec := if x.t = 1 then { r with t := r.t + 1 } else if x.t = 2 then { r with l := r.l.drop 1 } else if x.t = 3 then { r with pt := x.a, pd := x.b } else r
def mkR (F : Fd) (x : Stp) : Rec := mkB x (mkA x (fit F.W.turn F.r x.c (x.l.take 8)))

set_option maxHeartbeats 4000000 in
set_option maxRecDepth 100000 in
theorem Make22_T (v : Nat) (V : Vs) (u : Nat) (I : List Fn) (F : Fd) (n : Int) (h : F.Ok n) (hn : n ≤ 10000) (x : Stp) (hc : x.c.length ≤ maxLen) :
    callT Tryz.prog 11 [.at 2000 v 0, .agg x.cells] ⟨[], fdH v V u I F⟩ (fun y h => y = .agg (mkR F x).cells ∧ h = fdH v V u I F) := by
  refine callT_of_body [0, 1, 3, 4, 5, 6, 11, 26, 39, 40, 46, 51, 56] [2000, 2001, 2002, 2003, 2004, 2005, 2006] Tryz.func11 rfl (by decide) (by kernel_rfl) rfl ?_
  have hTu := WTurn_T V u I F.W
  have hRo := FRos_T v V u I F
  have hfit := Fit_T F.W.turn F.r x.c (x.l.take 8) h.s h.e0 (by have := h.e; omega) hc
  have htn : 0 ≤ F.W.turn ∧ F.W.turn ≤ 1000000000000 := by have := h.w.sm F.W.turn (by simp); omega
  have hft : (fit F.W.turn F.r x.c (x.l.take 8)).t = F.W.turn := rfl
  have e1 : IntKind.i64.wrap (F.W.turn + 1) = F.W.turn + 1 := i64_id (by omega) (by omega)
  have ha : 0 ≤ bits .and .i64 x.a 63 ∧ bits .and .i64 x.a 63 ≤ 63 := i64_and_le x.a 63 (by decide)
  have hb := i64_and_le x.b 255 (by decide)
  have hm : 0 ≤ (bits .and .i64 x.b 255).tmod 6 ∧ (bits .and .i64 x.b 255).tmod 6 < 6 := ⟨Int.tmod_nonneg 6 hb.1, Int.tmod_lt_of_pos _ (by decide)⟩
  have e2 := (fun (m : Int) (h : 0 ≤ m ∧ m ≤ 63) => (i64_id (by omega) (by omega) : IntKind.i64.wrap (1 + m) = 1 + m)) _ ha
  have e3 := (fun (m : Int) (h : 0 ≤ m ∧ m < 6) => (i64_id (by omega) (by omega) : IntKind.i64.wrap (1 + m) = 1 + m)) _ hm
  clear ha hb hm
  unfold mkR
  generalize fit F.W.turn F.r x.c (x.l.take 8) = f at hfit hft ⊢
  obtain ⟨xc, xo, xa, xb, xl, xt⟩ := x
  obtain ⟨ft, fc, fpt, fpd, fl⟩ := f
  simp only at hft
  subst hft
  simp only [Ros.cells, Rec.cells, i64c, u32v] at hTu hRo hfit
  by_cases h8 : 8 < xl.length
  · have h8' : (8 : Int) < xl.length := by omega
    have e8 : List.take 8 (rowB xl) = rowB (List.take 8 xl) := by simp [rowB, List.map_take]
    have e9 : (List.take 8 xl).length = 8 := by simp; omega
    have e7 : CloL (List.take 8 (rowB xl)) := by rw [e8]; exact rowB_clo8 _
    rw [← e8, e9] at hfit
    simp [Stp.cells, i64v, i64c, u32v, h8, h8']
    refine fun v3 v4 => ⟨by omega, ?_⟩
    refine drawT_cut (α := Nat) (fun _ => True) (fun x => ⟨[(0, .at 2000 v 0), (3, .at 3 v3 0), (4, .at 4 v4 0), (6, .at 6 x 0)], [(3, v3, ⟨0, [.isl (rowG xc) xc.length, .v (.bool xo), i64c xa, i64c xb, .isl (rowB xl) xl.length, i64c xt]⟩), (4, v4, ⟨0, [i64c 0, .v (.slice none 0 0), i64c 0, i64c 0, .v (.slice none 0 0)]⟩), (6, x, ⟨0, [i64c F.W.turn, .isl (rowG fc) fc.length, i64c fpt, i64c fpd, .isl (rowP fl) fl.length]⟩)] ++ fdH v V u I F⟩) ?_ ?_
    · refine draw_h (pl [0, 1, 2, 3, 5, 7, 8, 9] (.alt 4 (pl [] (.alt 6 (pl [] (.alt 10 (pl [11] .nil) 11 (pl [10] .nil))) 11 (pl [6, 10] .nil))) 11 (pl [4, 6, 10] .nil))) 12 [(4, [0, 1, 2, 3]), (6, [0, 1, 2, 3, 4, 5]), (10, [0, 1, 2, 3, 4, 5, 6, 7, 8, 9]), (11, [])] (by kernel_rfl) (by kernel_rfl) (by kernel_rfl) (by kernel_rfl) ?_
      simp [i64v, i64c, u32v, e7]
      refine ⟨?_, fun v6 => ?_⟩
      · refine callT_eq [(2001, 2001), (2002, 2002), (2003, 2003), (2004, 2004), (2005, 2005), (2006, 2006)] hTu ?_
        simp [i64v, i64c, u32v, e7]
        refine ⟨?_, fun v6 => ?_⟩
        · refine callT_eq [(2000, 2000), (2001, 2001), (2002, 2002), (2003, 2003), (2004, 2004), (2005, 2005), (2006, 2006)] hRo ?_
          simp [i64v, i64c, u32v, e7]
          refine ⟨?_, fun v6 => ?_⟩
          · refine callT_eq [] hfit ?_
            simp [i64v, i64c, u32v, e7]
            intro v6
            refine SLx.at v6 trivial (by simp [i64v, i64c, u32v, e7]) (by simp [i64v, i64c, u32v, e7])
          · refine callT_eq [] hfit ?_
            simp [i64v, i64c, u32v, e7]
            refine SLx.at v6 trivial (by simp [i64v, i64c, u32v, e7]) (by simp [i64v, i64c, u32v, e7])
        · refine callT_eq [(2000, 2000), (2001, 2001), (2002, 2002), (2003, 2003), (2004, 2004), (2005, 2005), (2006, 2006)] hRo ?_
          simp [i64v, i64c, u32v, e7]
          refine callT_eq [] hfit ?_
          simp [i64v, i64c, u32v, e7]
          refine SLx.at v6 trivial (by simp [i64v, i64c, u32v, e7]) (by simp [i64v, i64c, u32v, e7])
      · refine callT_eq [(2001, 2001), (2002, 2002), (2003, 2003), (2004, 2004), (2005, 2005), (2006, 2006)] hTu ?_
        simp [i64v, i64c, u32v, e7]
        refine callT_eq [(2000, 2000), (2001, 2001), (2002, 2002), (2003, 2003), (2004, 2004), (2005, 2005), (2006, 2006)] hRo ?_
        simp [i64v, i64c, u32v, e7]
        refine callT_eq [] hfit ?_
        simp [i64v, i64c, u32v, e7]
        refine SLx.at v6 trivial (by simp [i64v, i64c, u32v, e7]) (by simp [i64v, i64c, u32v, e7])
    · rintro v6 -
      by_cases t1 : xt = 1
      · subst t1
        cases xo <;> simp [mkA, mkB, Rec.cells, i64c, i64v, u32v, e1, e2, e3]
      by_cases t2 : xt = 2
      · subst t2
        cases fl with
        | nil => cases xo <;> simp [mkA, mkB, Rec.cells, i64c, i64v, u32v, e1, e2, e3]
        | cons p fl =>
          have hl' : (0 : Int) < ((p :: fl).length : Nat) := by simp only [List.length_cons]; omega
          have hd : List.drop 2 (p.cells ++ rowP fl) = rowP fl := rfl
          have htk : List.take (fl.length * 2) (rowP fl) = rowP fl := List.take_of_length_le (by simp)
          cases xo <;> simp [mkA, mkB, Rec.cells, i64c, i64v, u32v, e1, e2, e3, hl', hd, htk, show p.cells.length = 2 from rfl] <;> omega
      by_cases t3 : xt = 3
      · subst t3
        cases xo <;> simp [mkA, mkB, Rec.cells, i64c, i64v, u32v, e1, e2, e3]
      · cases xo <;> simp [mkA, mkB, Rec.cells, i64c, i64v, u32v, e1, e2, e3, t1, t2, t3]
  · have h8' : ¬ (8 : Int) < xl.length := by omega
    have e7 : CloL (rowB xl) := rowB_clo8 xl
    rw [List.take_of_length_le (by omega)] at hfit
    simp [Stp.cells, i64v, i64c, u32v, h8, h8']
    intro v3 v4
    refine drawT_cut (α := Nat) (fun _ => True) (fun x => ⟨[(0, .at 2000 v 0), (3, .at 3 v3 0), (4, .at 4 v4 0), (6, .at 6 x 0)], [(3, v3, ⟨0, [.isl (rowG xc) xc.length, .v (.bool xo), i64c xa, i64c xb, .isl (rowB xl) xl.length, i64c xt]⟩), (4, v4, ⟨0, [i64c 0, .v (.slice none 0 0), i64c 0, i64c 0, .v (.slice none 0 0)]⟩), (6, x, ⟨0, [i64c F.W.turn, .isl (rowG fc) fc.length, i64c fpt, i64c fpd, .isl (rowP fl) fl.length]⟩)] ++ fdH v V u I F⟩) ?_ ?_
    · refine draw_h (pl [0, 1, 2, 3, 5, 7, 8, 9] (.alt 4 (pl [] (.alt 6 (pl [] (.alt 10 (pl [11] .nil) 11 (pl [10] .nil))) 11 (pl [6, 10] .nil))) 11 (pl [4, 6, 10] .nil))) 12 [(4, [0, 1, 2, 3]), (6, [0, 1, 2, 3, 4, 5]), (10, [0, 1, 2, 3, 4, 5, 6, 7, 8, 9]), (11, [])] (by kernel_rfl) (by kernel_rfl) (by kernel_rfl) (by kernel_rfl) ?_
      simp [i64v, i64c, u32v, e7]
      refine ⟨?_, fun v6 => ?_⟩
      · refine callT_eq [(2001, 2001), (2002, 2002), (2003, 2003), (2004, 2004), (2005, 2005), (2006, 2006)] hTu ?_
        simp [i64v, i64c, u32v, e7]
        refine ⟨?_, fun v6 => ?_⟩
        · refine callT_eq [(2000, 2000), (2001, 2001), (2002, 2002), (2003, 2003), (2004, 2004), (2005, 2005), (2006, 2006)] hRo ?_
          simp [i64v, i64c, u32v, e7]
          refine ⟨?_, fun v6 => ?_⟩
          · refine callT_eq [] hfit ?_
            simp [i64v, i64c, u32v, e7]
            intro v6
            refine SLx.at v6 trivial (by simp [i64v, i64c, u32v, e7]) (by simp [i64v, i64c, u32v, e7])
          · refine callT_eq [] hfit ?_
            simp [i64v, i64c, u32v, e7]
            refine SLx.at v6 trivial (by simp [i64v, i64c, u32v, e7]) (by simp [i64v, i64c, u32v, e7])
        · refine callT_eq [(2000, 2000), (2001, 2001), (2002, 2002), (2003, 2003), (2004, 2004), (2005, 2005), (2006, 2006)] hRo ?_
          simp [i64v, i64c, u32v, e7]
          refine callT_eq [] hfit ?_
          simp [i64v, i64c, u32v, e7]
          refine SLx.at v6 trivial (by simp [i64v, i64c, u32v, e7]) (by simp [i64v, i64c, u32v, e7])
      · refine callT_eq [(2001, 2001), (2002, 2002), (2003, 2003), (2004, 2004), (2005, 2005), (2006, 2006)] hTu ?_
        simp [i64v, i64c, u32v, e7]
        refine callT_eq [(2000, 2000), (2001, 2001), (2002, 2002), (2003, 2003), (2004, 2004), (2005, 2005), (2006, 2006)] hRo ?_
        simp [i64v, i64c, u32v, e7]
        refine callT_eq [] hfit ?_
        simp [i64v, i64c, u32v, e7]
        refine SLx.at v6 trivial (by simp [i64v, i64c, u32v, e7]) (by simp [i64v, i64c, u32v, e7])
    · rintro v6 -
      by_cases t1 : xt = 1
      · subst t1
        cases xo <;> simp [mkA, mkB, Rec.cells, i64c, i64v, u32v, e1, e2, e3]
      by_cases t2 : xt = 2
      · subst t2
        cases fl with
        | nil => cases xo <;> simp [mkA, mkB, Rec.cells, i64c, i64v, u32v, e1, e2, e3]
        | cons p fl =>
          have hl' : (0 : Int) < ((p :: fl).length : Nat) := by simp only [List.length_cons]; omega
          have hd : List.drop 2 (p.cells ++ rowP fl) = rowP fl := rfl
          have htk : List.take (fl.length * 2) (rowP fl) = rowP fl := List.take_of_length_le (by simp)
          cases xo <;> simp [mkA, mkB, Rec.cells, i64c, i64v, u32v, e1, e2, e3, hl', hd, htk, show p.cells.length = 2 from rfl] <;> omega
      by_cases t3 : xt = 3
      · subst t3
        cases xo <;> simp [mkA, mkB, Rec.cells, i64c, i64v, u32v, e1, e2, e3]
      · cases xo <;> simp [mkA, mkB, Rec.cells, i64c, i64v, u32v, e1, e2, e3, t1, t2, t3]
end Go.Proofs.YtnkdkajllmopaaaGreat.TL
namespace Go.Proofs.YtnkdkajllmopaaaGreat.TL
open Go
set_option linter.unusedVariables false
set_option linter.unusedSimpArgs false

theorem Fd.apply_ok {I : List Fn} (hI : Img I) (hn : NoPut I) {F : Fd} {n : Int} (h : F.Ok n) {r : Rec} (hr : r.sz) (hn0 : 0 ≤ n) : (F.apply I r).1.Ok (n + 1) := by
  by_cases hc : r.chk F.W.turn F.r = 0
  · have hw : (F.apply I r).1.W = (F.W.play I r.l).1 := by unfold Fd.apply; rw [if_neg (by simpa using hc)]
    have hro : (F.apply I r).1.r = (r.ros F.r).1 := (apply_tn I F r hc).2
    have hpt : (F.apply I r).1.pt = if r.pt = 0 ∧ r.pd = 0 then F.pt else r.pt := by unfold Fd.apply; rw [if_neg (by simpa using hc)]
    have hpd : (F.apply I r).1.pd = if r.pt = 0 ∧ r.pd = 0 then F.pd else r.pd := by unfold Fd.apply; rw [if_neg (by simpa using hc)]
    have hc0 := hc
    unfold Rec.chk at hc
    split at hc
    · cases hc
    split at hc
    · rename_i h2; exact absurd hc h2.2
    rename_i hpp
    split at hc
    · rename_i h3; exact absurd hc h3
    rename_i hrr
    split at hc
    · cases hc
    rename_i hpl
    have hl : r.l.length ≤ 32 := by
      have e : (pls r.l).length = ((r.ros F.r).1.all 32).length := by rw [Classical.byContradiction hpl]
      have := (r.ros F.r).1.all_len 32
      simp at e
      omega
    have hre : (r.ros F.r).1.e = F.r.e + r.c.length ∧ r.c.length ≤ 8 := by
      unfold Rec.ros at hrr ⊢
      split at hrr
      · simp at hrr
      · rename_i h8
        rw [if_neg h8]
        exact ⟨goW_e _ _ (by simpa using hrr), by omega⟩
    refine ⟨?_, ?_, ?_, ?_, ?_, ?_⟩
    · rw [hw]; exact (play_ok hI h.w r.l hr.b).mono (by omega)
    · rw [hw]; exact play_R hn h.R r.l
    · rw [hro]; exact ros_lt h.s
    · rw [hro]; have := h.e0; omega
    · rw [hro]; have := h.e; omega
    · rw [hpt, hpd]
      split
      · exact h.p
      · rename_i hz
        exact Classical.byContradiction fun h4 => hpp ⟨by omega, h4⟩
  · rw [apply_no I F r hc]
    exact ⟨h.w.mono (by omega), h.R, h.s, h.e0, by have := h.e; omega, h.p⟩

theorem rApp_eq (I : List Fn) {F : Fd} {n : Int} (h : F.Ok n) (r : Rec) : rApp F.r F.pt F.pd F.W.turn r = (rSt (F.apply I r).1.r (F.apply I r).1.pt (F.apply I r).1.pd (F.apply I r).1.W.turn, (F.apply I r).2) := by
  unfold rApp
  by_cases hc : r.chk F.W.turn F.r = 0
  · rw [if_neg (by simpa using hc)]
    have h1 := apply_tn I F r hc
    have h2 := apply_er I F r
    rw [h2, hc, h1.1, h1.2]
    have hpt : (F.apply I r).1.pt = if r.pt = 0 ∧ r.pd = 0 then F.pt else r.pt := by unfold Fd.apply; rw [if_neg (by simpa using hc)]
    have hpd : (F.apply I r).1.pd = if r.pt = 0 ∧ r.pd = 0 then F.pd else r.pd := by unfold Fd.apply; rw [if_neg (by simpa using hc)]
    rw [hpt, hpd]
    unfold Rec.chk at hc
    split at hc
    · cases hc
    split at hc
    · rename_i h2; exact absurd hc h2.2
    rename_i hpp
    by_cases hz : r.pt = 0 ∧ r.pd = 0
    · rw [if_pos hz, if_pos hz, if_neg (by omega), if_neg (by omega)]
    · have hpc : pchk r.pt r.pd = 0 := Classical.byContradiction fun h4 => hpp ⟨by omega, h4⟩
      have := pchk_0 hpc
      rw [if_neg hz, if_neg hz, if_pos (by omega), if_pos (by omega)]
  · rw [if_pos hc, apply_no I F r hc, apply_er]

theorem mkR_sz {F : Fd} {n : Int} (h : F.Ok n) (hn : n ≤ 10000) (x : Stp) : (mkR F x).sz := by
  have ht := h.w.sm F.W.turn (by simp)
  have hf := fit_wf (t := F.W.turn) (cs := x.c) (L := x.l.take 8) h.s (by omega)
  have hm : ∀ (y : Rec), y.sz → (mkA x y).sz := fun y hy => by
    unfold mkA
    split
    · exact ⟨hy.c, hy.v, hy.l, hy.b⟩
    · exact hy
  have hk : ∀ (y : Rec), y.sz → (mkB x y).sz := fun y hy => by
    unfold mkB
    split
    · exact ⟨hy.c, hy.v, hy.l, hy.b⟩
    split
    · exact ⟨hy.c, hy.v, by simp only [List.length_drop]; have := hy.l; omega, fun p hp => hy.b p (List.mem_of_mem_drop hp)⟩
    split
    · exact ⟨hy.c, hy.v, hy.l, hy.b⟩
    · exact hy
  refine hk _ (hm _ ⟨?_, ?_, ?_, ?_⟩)
  · have := hf.cl; omega
  · intro c hc; have := (hf.c c hc).l; omega
  · have := hf.ll; omega
  · intro p hp; have := (hf.l p hp).l; omega

theorem plsG_cases (n : Int) : plsG n = [0] ∨ plsG n = [0, 1] ∨ plsG n = [0, 1, 2] ∨ plsG n = [0, 1, 2, 3] ∨ plsG n = [0, 1, 2, 3, 4] ∨ plsG n = [0, 1, 2, 3, 4, 5] ∨ plsG n = [0, 1, 2, 3, 4, 5, 6] ∨ plsG n = [0, 1, 2, 3, 4, 5, 6, 7] := by
  have hn : 0 ≤ bits .and .i64 n 7 ∧ bits .and .i64 n 7 ≤ 7 := i64_and_le n 7 (by decide)
  unfold plsG
  generalize bits .and .i64 n 7 = m at hn
  have hm : m = 0 ∨ m = 1 ∨ m = 2 ∨ m = 3 ∨ m = 4 ∨ m = 5 ∨ m = 6 ∨ m = 7 := by omega
  rcases hm with rfl | rfl | rfl | rfl | rfl | rfl | rfl | rfl <;> decide
theorem plsG_ok (n : Int) : fchk gameI (plsG n) 2 2 = 0 ∧ (plsG n).length ≤ 8 := by
  have hg : chkV gameI = 0 := by decide
  have key : ∀ l : List Int, (Ros.mk (setOf l) 0).has 0 = true → (Ros.mk (setOf l) 0).len = l.length → fchk gameI l 2 2 = 0 := fun l h1 h2 => by
    unfold fchk
    rw [if_neg (by simpa using hg), if_neg (by decide), if_neg (by rw [h1, h2]; simp)]
  rcases plsG_cases n with h | h | h | h | h | h | h | h <;> rw [h] <;> exact ⟨key _ (by decide) (by decide), by decide⟩
theorem fd0_ok (n : Int) : (fd0 7 (plsG n) 2 2).Ok 0 := ⟨(wd0_ok 7).mono (by omega), wd0_R (by decide), setOf_lt _, by simp [fd0], by simp [fd0], by simp [fd0, pchk]⟩

def rowS (l : List Stp) : List TV := (l.map Stp.cells).flatten
@[simp] theorem rowS_nil : rowS [] = [] := rfl
@[simp] theorem rowS_cons (a : Stp) (l : List Stp) : rowS (a :: l) = a.cells ++ rowS l := by simp [rowS]
@[simp] theorem rowS_len (l : List Stp) : (rowS l).length = l.length * 6 := by
  induction l with
  | nil => rfl
  | cons a l ih => simp [ih, Stp.cells]; omega
theorem rowS_drop (l : List Stp) : ∀ k, (rowS l).drop (k * 6) = rowS (l.drop k) := by
  induction l with
  | nil => simp
  | cons a l ih =>
    intro k
    cases k with
    | zero => simp
    | succ k =>
      have e : (k + 1) * 6 = k * 6 + 6 := by omega
      simp [Stp.cells, e, ih]
theorem rowS_at {l : List Stp} {k : Nat} (h : k < l.length) : (rowS l).drop (k * 6) = (l[k]).cells ++ rowS (l.drop (k + 1)) := by
  rw [rowS_drop, List.drop_eq_getElem_cons h, rowS_cons]

end Go.Proofs.YtnkdkajllmopaaaGreat.TL
namespace Go.Proofs.YtnkdkajllmopaaaGreat.TL
open Go
set_option linter.unusedVariables false
set_option linter.unusedSimpArgs false

theorem fin_nil : In.fin (⟨[], 0⟩ : In) = ⟨[], 0⟩ := by simp [In.fin]
set_option maxHeartbeats 2000000 in
set_option maxRecDepth 100000 in
theorem FRst_0 (I : List Fn) (hI : I.length ≤ 1000000) (hc : chkV I = 0) (F : Fd) (n : Int) (hF : F.Ok n) (hn : n ≤ 10000) : callT Tryz.prog 70 [.agg [.isl (rowFn I) I.length], .v (.string (bs (fdB F)))] ⟨[], []⟩ (fun r h => ∃ x : Nat × Vs × Nat, r = .tup [.at 49 x.1 0, i64c 0] ∧
    ∀ p ∈ ((49, x.1, ⟨0, [.at 2001 x.2.1.w 0, .isl (rowFn I) I.length, u32v F.r.s, i64c F.r.e, i64c F.pt, i64c F.pd]⟩) :: wdH x.2.1 x.2.2 I F.W : Heap), getH h p.1 = some p.2) := by
  refine callT_of_body [0, 1, 2, 4, 5, 6, 7, 8, 9, 10, 11, 12, 13, 28, 33, 42] [49, 2001, 2002, 2003, 2004, 2005, 2006] Tryz.func70 rfl (by decide) (by kernel_rfl) rfl ?_
  have hp := pchk_0 hF.p
  have he := hF.e
  have he0 := hF.e0
  have hs := hF.s
  have hwl := wdB_len hF.w (by omega) hF.R
  have k0 := ros_nbr (nb F.pt.toNat ++ (nb F.pd.toNat ++ (nb (wdB F.W).length ++ (wdB F.W ++ [])))) hs he0 (by omega)
  have k1 := In.count_nb (nb F.pd.toNat ++ (nb (wdB F.W).length ++ (wdB F.W ++ []))) (n := F.pt.toNat) (m := 64) (by decide) (by omega)
  have k2 := In.count_nb (nb (wdB F.W).length ++ (wdB F.W ++ [])) (n := F.pd.toNat) (m := 6) (by decide) (by omega)
  have k3 := str_nb [] (s := wdB F.W) (m := 65536) (by decide) (by omega)
  have e0 : F.r.bytes ++ (nb F.pt.toNat ++ (nb F.pd.toNat ++ (nb (wdB F.W).length ++ (wdB F.W ++ [])))) = fdB F := by simp [fdB]
  have e1 : ((F.pt.toNat : Nat) : Int) = F.pt := by omega
  have e2 : ((F.pd.toNat : Nat) : Int) = F.pd := by omega
  rw [e0] at k0
  rw [e1] at k1
  rw [e2] at k2
  have kw := wd_nb (hF.w.mono (by omega)) hF.R
  have hW := WRst_T I hI hc (wdB F.W) (by rw [kw])
  rw [kw] at hW
  have hP := PcChk_T F.pt F.pd
  rw [hF.p] at hP
  have hR := fun v => RRead_T v ⟨fdB F, 0⟩
  have hC1 := fun v => Count_T v ⟨nb F.pt.toNat ++ (nb F.pd.toNat ++ (nb (wdB F.W).length ++ (wdB F.W ++ []))), 0⟩ 64 (by decide)
  have hC2 := fun v => Count_T v ⟨nb F.pd.toNat ++ (nb (wdB F.W).length ++ (wdB F.W ++ [])), 0⟩ 6 (by decide)
  have hS := fun v => InStr_T v ⟨nb (wdB F.W).length ++ (wdB F.W ++ []), 0⟩ 65536 (by decide)
  have hE := fun v => End_T v ⟨[], 0⟩
  simp only [k0] at hR
  simp only [k1] at hC1
  simp only [k2] at hC2
  simp only [k3] at hS
  simp only [fin_nil] at hE
  simp only [Ros.cells, i64c, u32v] at hR hP
  clear e0 e1 e2 kw k0 k1 k2 k3
  simp [i64c, u32v]
  intro v2
  refine callT_ex [(5, 1500)] (Open_T (fdB F)) ?_
  simp [i64c, i64v, u32v, u64c]
  intro vi
  refine callT_eq [(1000, 1500)] (hR vi) ?_
  simp [i64c, i64v, u32v, u64c]
  intro v7
  refine callT_eq [(1000, 1500)] (hC1 vi) ?_
  simp [i64c, i64v, u32v, u64c]
  refine callT_eq [(1000, 1500)] (hC2 vi) ?_
  simp [i64c, i64v, u32v, u64c]
  intro v8
  refine callT_eq [(1000, 1500)] (hS vi) ?_
  simp [i64c, i64v, u32v, u64c]
  refine callT_eq [(1000, 1500)] (hE vi) ?_
  simp [i64c, i64v, u32v, u64c]
  refine callT_eq [] hP ?_
  simp [i64c, i64v, u32v, u64c]
  refine callT_exa [(2001, 2001), (2002, 2002), (2003, 2003), (2004, 2004), (2005, 2005), (2006, 2006)] hW ?_
  simp [i64c, i64v, u32v, u64c]
  exact fun V u => ⟨V, rfl, ⟨rfl, rfl, rfl⟩, u, ⟨rfl, rfl⟩, rfl, ⟨rfl, rfl, rfl, rfl⟩, rfl, rfl⟩

theorem FRst_T (I : List Fn) (hI : I.length ≤ 1000000) (hc : chkV I = 0) (F : Fd) (n : Int) (hF : F.Ok n) (hn : n ≤ 10000) : callT Tryz.prog 70 [.agg [.isl (rowFn I) I.length], .v (.string (bs (fdB F)))] ⟨[], []⟩ (fun r h => ∃ x : Nat × Vs × Nat, r = .tup [.at 2000 x.1 0, i64c 0] ∧ h = fdH x.1 x.2.1 x.2.2 I F) := by
  refine callT.mono (FRst_0 I hI hc F n hF hn) fun r h hh => ?_
  obtain ⟨⟨v, V, u⟩, rfl, hH⟩ := hh
  refine VLx.sub _ hH ?_
  refine VLx.mv 49 2000 rfl rfl fun v' => ?_
  refine VLx.done ⟨(v', V, u), ?_, ?_⟩
  · simp [i64c]
  · simp [i64v, i64c, u32v]
end Go.Proofs.YtnkdkajllmopaaaGreat.TL
