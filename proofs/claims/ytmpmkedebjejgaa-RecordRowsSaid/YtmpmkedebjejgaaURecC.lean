/- Records: may they be; who plays. -/
import Derived.Test.YtmpmkedebjejgaaURecS
import Derived.Test.YtmpmkedebjejgaaURos
namespace Go.Proofs.Ytmpmkedebjejgaa.TL
open Go
set_option linter.unusedVariables false
set_option linter.unusedSimpArgs false

theorem rowP_get {l : List Ply} {i : Nat} (h : i < l.length) : (l[i]?.getD ⟨0, []⟩) = l[i] := by simp [h]
def plyAt (l : List Ply) (i : Nat) : Ply := l[i]?.getD ⟨0, []⟩
/-- What the i-th play is refused for. -/
def plyChk (l : List Ply) (i : Nat) : Int :=
  if (plyAt l i).p < 0 ∨ 32 ≤ (plyAt l i).p then 13
  else if 0 < i ∧ (plyAt l i).p ≤ (plyAt l (i - 1)).p then 12
  else batchChk (plyAt l i).b
def wgo (l : List Ply) : Nat → Nat → Int
  | 0, _ => 0
  | n + 1, i => if plyChk l i ≠ 0 then plyChk l i else wgo l n (i + 1)
def wchk (l : List Ply) : Int := wgo l l.length 0

set_option maxHeartbeats 4000000 in
set_option maxRecDepth 100000 in
theorem WChk_T (l : List Ply) (hl : l.length ≤ 1000000) (hb : ∀ p ∈ l, p.b.length ≤ 1000000) : callT Try.prog 38 [.isl (rowP l) l.length] ⟨[], []⟩ (fun x h => x = i64c (wchk l) ∧ h = []) := by
  refine callT_of_body [0, 2, 3, 4, 5, 6, 7, 8, 9, 13, 22, 40] [] Try.func38 rfl (by decide) (by kernel_rfl) rfl ?_
  simp
  refine loopT_of (Nat × Nat) (fun x => x.1 ≤ l.length ∧ wgo l (l.length - x.1) x.1 = wchk l) (fun x => ⟨[(0, .isl (rowP l) l.length), (6, .isl (rowP l) l.length), (7, .v (.int .i64 l.length)), (8, .v (.int .i64 x.1))], []⟩) (fun x => l.length - x.1) (0, 0) ⟨by simp, rfl⟩ (by simp) (by simp) ?_
  rintro ⟨k, z⟩ ⟨hk, hgo⟩
  simp only at hk hgo ⊢
  by_cases h1 : k < l.length
  · have hat := rowP_at h1
    have hpk : plyAt l k = l[k] := by simp [plyAt, h1]
    have hbk := hb l[k] (List.getElem_mem h1)
    have e1 : IntKind.i64.wrap ((k : Int) + 1) = ((k + 1 : Nat) : Int) := by rw [i64_id (by omega) (by omega)]; rfl
    rw [show l.length - k = l.length - (k + 1) + 1 by omega, wgo] at hgo
    by_cases p1 : l[k].p < 0
    · have hc : plyChk l k = 13 := by simp [plyChk, hpk, p1]
      rw [hc] at hgo
      simp at hgo
      simp [h1, hat, i64c, p1, ← hgo]
    by_cases p2 : 32 ≤ l[k].p
    · have hc : plyChk l k = 13 := by simp [plyChk, hpk, p2]
      rw [hc] at hgo
      simp at hgo
      simp [h1, hat, i64c, p1, p2, ← hgo]
    by_cases k0 : k = 0
    · subst k0
      have hc : plyChk l 0 = batchChk l[0].b := by simp [plyChk, hpk, p1, p2]
      rw [hc] at hgo
      simp [h1, hat, i64c, p1, p2]
      intro v4
      refine draw_g [0, 1, 2, 3, 4, 5, 6, 7, 8, 9, 10] 11 [] (by kernel_rfl) (by kernel_rfl) (by kernel_rfl) ?_
      simp
      refine callT_eq [] (BCheck_T l[0].b hbk) ?_
      by_cases hz : batchChk l[0].b = 0
      · simp [hz] at hgo
        simp [hz, i64c]
        exact SLx.again (1, 0) ⟨by simp only; omega, by simp only; rw [← hgo]⟩ (by simp only; omega) (by simp [show IntKind.i64.wrap 1 = 1 by decide]) (by simp)
      · simp [hz] at hgo
        simp [hz, i64c]
        exact hgo
    · have h2 : k - 1 < l.length := by omega
      have hat2 := rowP_at h2
      have hpk2 : plyAt l (k - 1) = l[k - 1] := by simp [plyAt, h2]
      have k0' : 0 < k := by omega
      have e2 : IntKind.i64.wrap ((k : Int) - 1) = ((k - 1 : Nat) : Int) := by rw [i64_id (by omega) (by omega)]; omega
      by_cases p3 : l[k].p ≤ l[k - 1].p
      · have hc : plyChk l k = 12 := by simp [plyChk, hpk, hpk2, p1, p2, p3, k0']
        rw [hc] at hgo
        simp at hgo
        simp [h1, hat, i64c, p1, p2]
        intro v4
        refine draw_g [0, 1, 2, 3, 4, 5, 6, 7, 8, 9, 10] 11 [] (by kernel_rfl) (by kernel_rfl) (by kernel_rfl) ?_
        simp [k0', e2, h2, hat2, i64c, p3, ← hgo]
      · have hc : plyChk l k = batchChk l[k].b := by simp [plyChk, hpk, hpk2, p1, p2, p3]
        rw [hc] at hgo
        simp [h1, hat, i64c, p1, p2]
        intro v4
        refine draw_g [0, 1, 2, 3, 4, 5, 6, 7, 8, 9, 10] 11 [] (by kernel_rfl) (by kernel_rfl) (by kernel_rfl) ?_
        simp [k0', e2, h2, hat2, i64c, p3]
        refine callT_eq [] (BCheck_T l[k].b hbk) ?_
        by_cases hz : batchChk l[k].b = 0
        · simp [hz] at hgo
          simp [hz, i64c]
          exact SLx.again (k + 1, 0) ⟨by simp only; omega, by simp only; rw [← hgo]⟩ (by simp only; omega) (by simp [e1]) (by simp)
        · simp [hz] at hgo
          simp [hz, i64c]
          exact hgo
  · have : k = l.length := by omega
    subst this
    simp [wgo] at hgo
    simp [i64c, ← hgo]

def Rec.ros (r : Rec) (was : Ros) : Ros × Int := if 8 < r.c.length then (was, 8) else was.goW was r.c
set_option maxHeartbeats 1000000 in
set_option maxRecDepth 100000 in
theorem RcRos_T (r : Rec) (w : Ros) (hs : w.s < 2 ^ 32) (hv : ∀ c ∈ r.c, c.v.length ≤ 1000000) (hl : r.c.length ≤ 1000000) (he : 0 ≤ w.e) (he2 : w.e ≤ 9223372036853775807) : callT Try.prog 17 [.agg r.cells, .agg w.cells] ⟨[], []⟩ (fun x h => x = .tup [.agg (r.ros w).1.cells, i64c (r.ros w).2] ∧ h = []) := by
  refine callT_of_body [0, 1, 2, 3, 4, 5, 9] [] Try.func17 rfl (by decide) (by kernel_rfl) rfl ?_
  by_cases h8 : 8 < r.c.length
  · have h8' : (8 : Int) < r.c.length := by omega
    simp [Rec.cells, Ros.cells, u32v, i64c, h8, h8', Rec.ros]
  · have h8' : ¬ (8 : Int) < r.c.length := by omega
    simp [Rec.cells, Ros.cells, u32v, i64c, h8, h8', Rec.ros]
    intro v2 v3 v4
    refine callT_eq [] (RWith_T w r.c hs hl hv he he2) ?_
    simp [Ros.cells, u32v, i64c]

def pchk (t d : Int) : Int := if t < 1 ∨ 64 < t ∨ d < 1 ∨ 6 < d then 4 else 0
set_option maxHeartbeats 1000000 in
set_option maxRecDepth 100000 in
theorem PcChk_T (t d : Int) : callT Try.prog 36 [.agg [i64c t, i64c d]] ⟨[], []⟩ (fun x h => x = i64c (pchk t d) ∧ h = []) := by
  refine callT_of_body [0, 1, 2, 20] [] Try.func36 rfl (by decide) (by kernel_rfl) rfl ?_
  by_cases h1 : t < 1
  · simp [i64c, h1, pchk]
  by_cases h2 : 64 < t
  · simp [i64c, h1, h2, pchk]
  by_cases h3 : d < 1
  · simp [i64c, h1, h2, h3, pchk]
  by_cases h4 : 6 < d
  · simp [i64c, h1, h2, h3, h4, pchk]
  · simp [i64c, h1, h2, h3, h4, pchk]

def pls (l : List Ply) : List Int := l.map Ply.p
@[simp] theorem pls_length (l : List Ply) : (pls l).length = l.length := by simp [pls]
@[simp] theorem pls_nil : pls [] = [] := rfl
theorem pls_snoc (l : List Ply) (p : Ply) : pls (l ++ [p]) = pls l ++ [p.p] := by simp [pls]
def Rec.chk (r : Rec) (next : Int) (was : Ros) : Int :=
  if r.t ≠ next then 12
  else if (r.pt ≠ 0 ∨ r.pd ≠ 0) ∧ pchk r.pt r.pd ≠ 0 then pchk r.pt r.pd
  else if (r.ros was).2 ≠ 0 then (r.ros was).2
  else if pls r.l ≠ (r.ros was).1.all 32 then 13
  else wchk r.l
theorem ros_lt {r : Rec} {w : Ros} (hs : w.s < 2 ^ 32) : (r.ros w).1.s < 2 ^ 32 := by
  unfold Rec.ros
  split
  · exact hs
  · have key : ∀ (l : List Chg) (x : Ros), x.s < 2 ^ 32 → (w.goW x l).1.s < 2 ^ 32 := fun l => by
      induction l with
      | nil => intro x h; exact h
      | cons c l ih =>
        intro x h
        unfold Ros.goW
        split
        · exact hs
        · rename_i hc
          exact ih _ (app_lt h (by simpa using hc))
    exact key r.c w hs

set_option maxHeartbeats 4000000 in
set_option maxRecDepth 100000 in
theorem RcChk_T (r : Rec) (n : Int) (w : Ros) (hs : w.s < 2 ^ 32) (hv : ∀ c ∈ r.c, c.v.length ≤ 1000000) (hl : r.c.length ≤ 1000000) (he : 0 ≤ w.e) (he2 : w.e ≤ 9223372036853775807) (hpl : r.l.length ≤ 1000000) (hpb : ∀ p ∈ r.l, p.b.length ≤ 1000000) :
    callT Try.prog 16 [.agg r.cells, i64c n, .agg w.cells] ⟨[], []⟩ (fun x h => x = i64c (r.chk n w) ∧ h = []) := by
  refine callT_of_body [0, 1, 2, 3, 5, 6, 7, 8, 9, 10, 12, 16, 20, 25, 34, 37, 38, 39, 40, 53] [] Try.func16 rfl (by decide) (by kernel_rfl) rfl ?_
  obtain ⟨rt, rc, rpt, rpd, rl⟩ := r
  simp only at hv hl hpl hpb
  by_cases ht : rt = n
  case neg =>
    simp [Rec.cells, Ros.cells, u32v, i64c, ht, Rec.chk]
  subst ht
  by_cases hz : rpt = 0 ∧ rpd = 0
  · obtain ⟨rfl, rfl⟩ := hz
    simp [Rec.cells, Ros.cells, u32v, i64c]
    intro v3 v5
    have hgl := ros_lt (r := (Rec.mk rt rc 0 0 rl)) hs
    have hros := RcRos_T (Rec.mk rt rc 0 0 rl) w hs hv hl he he2
    have hchk : (Rec.mk rt rc 0 0 rl).chk rt w = if ((Rec.mk rt rc 0 0 rl).ros w).2 ≠ 0 then ((Rec.mk rt rc 0 0 rl).ros w).2 else if pls rl ≠ ((Rec.mk rt rc 0 0 rl).ros w).1.all 32 then 13 else wchk rl := by
      simp only [Rec.chk]
      rw [if_neg (by simp), if_neg (by simp)]
    refine callT_eq [] hros ?_
    rw [hchk]
    generalize (Rec.mk rt rc 0 0 rl).ros w = G at hgl
    obtain ⟨R, e⟩ := G
    simp only at hgl
    by_cases h0 : e = 0
    case neg =>
      simp [Rec.cells, Ros.cells, u32v, i64c, h0]
    simp [Rec.cells, Ros.cells, u32v, i64c, h0]
    intro v8
    refine ⟨Nat × Nat, fun x => x.1 ≤ rl.length, fun x => ⟨[(3, .at 3 v3 0), (8, .at 8 v8 0), (10, .sl 1001 x.2 0 x.1), (37, .isl (rowP rl) rl.length), (38, .v (.int .i64 rl.length)), (39, .v (.int .i64 x.1))], [(3, v3, ⟨0, (Rec.mk rt rc 0 0 rl).cells⟩), (8, v8, ⟨0, R.cells⟩), (1001, x.2, ⟨1, (pls (rl.take x.1)).map i64c⟩)]⟩, fun x => rl.length - x.1, ?_, ?_⟩
    · refine SLx.nil 10 1001 1 (by decide) (by simp) fun u => SLx.fin _ ⟨(0, u), by simp, rfl⟩ (by simp) (by simp [Rec.cells, Ros.cells, u32v, i64c])
    rintro ⟨k, u⟩ hk
    simp only at hk ⊢
    by_cases g : k < rl.length
    · have hat := rowP_at g
      have e1 : IntKind.i64.wrap ((k : Int) + 1) = ((k + 1 : Nat) : Int) := by rw [i64_id (by omega) (by omega)]; rfl
      have hsn : (pls (rl.take (k + 1))).map i64c = (pls (rl.take k)).map i64c ++ [i64c rl[k].p] := by rw [List.take_succ_eq_append_getElem g, pls_snoc, List.map_append]; rfl
      have hlk : ((pls (rl.take k)).map i64c).length = k := by simp; omega
      generalize (pls (rl.take k)).map i64c = P at hsn hlk ⊢
      have htk : List.take k P = P := List.take_of_length_le (by omega)
      have hdr : List.drop (k + 1) P = [] := List.drop_of_length_le (by omega)
      simp [g, hat, i64c]
      refine fun v12 v46 => ⟨by omega, by omega, by omega, fun u2 => ?_⟩
      exact SLx.again (k + 1, u2) (by simp only; omega) (by simp only; omega) (by simp [e1]) (by simp [hsn, htk, hdr, i64c])
    · have : k = rl.length := by omega
      subst this
      rw [List.take_length]
      simp [Ros.cells, u32v, i64c]
      refine callT_eq [] (RAll_T R hgl) ?_
      simp [Ros.cells, u32v, i64c]
      have hEq := Equal_T (pls rl) (R.all 32) (by simp; omega)
      refine callT.pre (fn_of hEq) (CLx.frz 1001 rfl (CLx.done ?_))
      simp
      have htk2 : List.take rl.length ((pls rl).map i64c) = (pls rl).map i64c := List.take_of_length_le (by simp)
      simp [htk2]
      refine callT_eq [] hEq ?_
      simp [Rec.cells, i64c]
      by_cases q : pls rl = R.all 32
      · simp [q]
        refine callT_eq [] (WChk_T rl hpl hpb) ?_
        simp [i64c]
      · simp [q]
  · have hz2 : ¬ rpt = 0 ∨ ¬ rpd = 0 := by omega
    have hz3 : rpt = 0 → ¬ rpd = 0 := by omega
    have hz4 : (!decide (rpt = 0) || !decide (rpd = 0)) = true := by simpa using hz2
    simp [Rec.cells, Ros.cells, u32v, i64c, hz2, hz3, hz4]
    intro v3 v5
    refine callT_eq [] (PcChk_T rpt rpd) ?_
    by_cases hpc : pchk rpt rpd = 0
    case neg =>
      simp [Rec.cells, Ros.cells, u32v, i64c, hpc, Rec.chk, hz2]
    simp [i64c, hpc]
    have hgl := ros_lt (r := (Rec.mk rt rc rpt rpd rl)) hs
    have hros := RcRos_T (Rec.mk rt rc rpt rpd rl) w hs hv hl he he2
    have hchk : (Rec.mk rt rc rpt rpd rl).chk rt w = if ((Rec.mk rt rc rpt rpd rl).ros w).2 ≠ 0 then ((Rec.mk rt rc rpt rpd rl).ros w).2 else if pls rl ≠ ((Rec.mk rt rc rpt rpd rl).ros w).1.all 32 then 13 else wchk rl := by
      simp only [Rec.chk]
      rw [if_neg (by simp), if_neg (by simp [hpc])]
    refine callT_eq [] hros ?_
    rw [hchk]
    generalize (Rec.mk rt rc rpt rpd rl).ros w = G at hgl
    obtain ⟨R, e⟩ := G
    simp only at hgl
    by_cases h0 : e = 0
    case neg =>
      simp [Rec.cells, Ros.cells, u32v, i64c, h0]
    simp [Rec.cells, Ros.cells, u32v, i64c, h0]
    intro v8
    refine ⟨Nat × Nat, fun x => x.1 ≤ rl.length, fun x => ⟨[(3, .at 3 v3 0), (8, .at 8 v8 0), (10, .sl 1001 x.2 0 x.1), (37, .isl (rowP rl) rl.length), (38, .v (.int .i64 rl.length)), (39, .v (.int .i64 x.1))], [(3, v3, ⟨0, (Rec.mk rt rc rpt rpd rl).cells⟩), (8, v8, ⟨0, R.cells⟩), (1001, x.2, ⟨1, (pls (rl.take x.1)).map i64c⟩)]⟩, fun x => rl.length - x.1, ?_, ?_⟩
    · refine SLx.nil 10 1001 1 (by decide) (by simp) fun u => SLx.fin _ ⟨(0, u), by simp, rfl⟩ (by simp) (by simp [Rec.cells, Ros.cells, u32v, i64c])
    rintro ⟨k, u⟩ hk
    simp only at hk ⊢
    by_cases g : k < rl.length
    · have hat := rowP_at g
      have e1 : IntKind.i64.wrap ((k : Int) + 1) = ((k + 1 : Nat) : Int) := by rw [i64_id (by omega) (by omega)]; rfl
      have hsn : (pls (rl.take (k + 1))).map i64c = (pls (rl.take k)).map i64c ++ [i64c rl[k].p] := by rw [List.take_succ_eq_append_getElem g, pls_snoc, List.map_append]; rfl
      have hlk : ((pls (rl.take k)).map i64c).length = k := by simp; omega
      generalize (pls (rl.take k)).map i64c = P at hsn hlk ⊢
      have htk : List.take k P = P := List.take_of_length_le (by omega)
      have hdr : List.drop (k + 1) P = [] := List.drop_of_length_le (by omega)
      simp [g, hat, i64c]
      refine fun v12 v46 => ⟨by omega, by omega, by omega, fun u2 => ?_⟩
      exact SLx.again (k + 1, u2) (by simp only; omega) (by simp only; omega) (by simp [e1]) (by simp [hsn, htk, hdr, i64c])
    · have : k = rl.length := by omega
      subst this
      rw [List.take_length]
      simp [Ros.cells, u32v, i64c]
      refine callT_eq [] (RAll_T R hgl) ?_
      simp [Ros.cells, u32v, i64c]
      have hEq := Equal_T (pls rl) (R.all 32) (by simp; omega)
      refine callT.pre (fn_of hEq) (CLx.frz 1001 rfl (CLx.done ?_))
      simp
      have htk2 : List.take rl.length ((pls rl).map i64c) = (pls rl).map i64c := List.take_of_length_le (by simp)
      simp [htk2]
      refine callT_eq [] hEq ?_
      simp [Rec.cells, i64c]
      by_cases q : pls rl = R.all 32
      · simp [q]
        refine callT_eq [] (WChk_T rl hpl hpb) ?_
        simp [i64c]
      · simp [q]
end Go.Proofs.Ytmpmkedebjejgaa.TL
