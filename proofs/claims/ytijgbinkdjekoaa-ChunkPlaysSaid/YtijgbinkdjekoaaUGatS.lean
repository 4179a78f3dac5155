/- The law ChunkPlays, as the code runs. -/
import Derived.Test.YtijgbinkdjekoaaUGatQ
namespace Go.Proofs.Ytijgbinkdjekoaa.TL
open Go
set_option linter.unusedVariables false
set_option linter.unusedSimpArgs false

theorem Told11_T (p : Pcs) : callT Try.prog 17 [.agg p.cells] ⟨[], []⟩ (fun x h => x = .agg p.cells ∧ h = []) := by
  refine callT_of_body [0, 1, 2] [] Try.func17 rfl (by decide) (by kernel_rfl) rfl ?_
  simp [Pcs.cells, i64c, u64c]
theorem pieceF_ok {L : List (List Pcs)} {a : CAct} (ha : a.ok) (hl : ∀ l ∈ L, ∀ p ∈ l, p.h < 2 ^ 64 ∧ p.s.length ≤ 100) : (pieceF L a).h < 2 ^ 64 ∧ (pieceF L a).s.length ≤ 120 := by
  have h0 : a.p.h < 2 ^ 64 ∧ (a.p.s.take 120).length ≤ 120 := ⟨ha.1, by simp; omega⟩
  have hget : ∀ (l : List Pcs) (k : Nat), (∀ p ∈ l, p.h < 2 ^ 64 ∧ p.s.length ≤ 100) → (l.getD k ⟨0, 0, 0, 0, []⟩).h < 2 ^ 64 ∧ (l.getD k ⟨0, 0, 0, 0, []⟩).s.length ≤ 100 := fun l k h => by
    rw [List.getD_eq_getElem?_getD]
    cases hk : l[k]? with
    | none => simp
    | some p => exact h p (List.mem_of_getElem? hk)
  have hgetL : ∀ k, ∀ p ∈ L.getD k [], p.h < 2 ^ 64 ∧ p.s.length ≤ 100 := fun k p hp => by
    rw [List.getD_eq_getElem?_getD] at hp
    cases hk : L[k]? with
    | none => rw [hk] at hp; simp at hp
    | some l => rw [hk] at hp; exact hl l (List.mem_of_getElem? hk) p hp
  have hbent : ∀ p : Pcs, (bent p).h = p.h ∧ (bent p).s.length = p.s.length := fun p => by
    obtain ⟨t, b, h, n, s⟩ := p
    cases s <;> exact ⟨rfl, rfl⟩
  unfold pieceF
  split
  · exact h0
  · simp only
    split
    · exact h0
    · have := hget _ ((a.n % 256).tmod (L.getD ((a.w % 256).tmod L.length).toNat []).length).toNat (hgetL ((a.w % 256).tmod L.length).toNat)
      split
      · have h2 := hbent ((L.getD ((a.w % 256).tmod L.length).toNat []).getD ((a.n % 256).tmod (L.getD ((a.w % 256).tmod L.length).toNat []).length).toNat ⟨0, 0, 0, 0, []⟩)
        rw [h2.1, h2.2]; omega
      · omega
@[simp] theorem CloL_rowQQ (L : List (List Pcs)) : CloL (rowQQ L) := CloL_iff.2 fun x hx => by
  obtain ⟨q, _, rfl⟩ := List.mem_map.1 hx
  simp [Clo]
@[simp] theorem CloL_strs (l : List (List UInt8)) : CloL (strs l) := CloL_iff.2 fun x hx => by
  obtain ⟨q, _, rfl⟩ := List.mem_map.1 hx
  simp [Clo]
@[simp] theorem CloL_rowA : ∀ l : List CAct, CloL (rowA l)
  | [] => by simp [rowA, CloL]
  | a :: l => by
    show CloL (a.cells ++ rowA l)
    rw [CloL_append]
    exact ⟨by simp [CAct.cells, Pcs.cells, i64c, u64c, CloL, Clo], CloL_rowA l⟩
@[simp] theorem CloL_ints (l : List Int) : CloL (l.map i64c) := CloL_iff.2 fun x hx => by
  obtain ⟨q, _, rfl⟩ := List.mem_map.1 hx
  simp [i64c, Clo]
@[simp] theorem length_rowA (l : List CAct) : (rowA l).length = l.length * 8 := by
  induction l with
  | nil => rfl
  | cons a l ih => simp [rowA, CAct.cells, Pcs.cells] at ih ⊢; omega
theorem rowA_drop : ∀ (n : Nat) (l : List CAct), (rowA l).drop (n * 8) = rowA (l.drop n)
  | 0, l => by simp
  | n + 1, [] => by simp [rowA]
  | n + 1, a :: l => by
    rw [List.drop_succ_cons, ← rowA_drop n l, Nat.add_mul, Nat.add_comm, ← List.drop_drop]
    rfl
theorem rowA_at {l : List CAct} {k : Nat} (h : k < l.length) : List.drop (k * 8) (rowA l) = l[k].cells ++ rowA (l.drop (k + 1)) := by
  rw [rowA_drop, List.drop_eq_getElem_cons h]
  rfl
set_option maxHeartbeats 16000000 in
set_option maxRecDepth 100000 in
theorem ChunkPlays_T (l : List (List UInt8)) (acts : List CAct) (hl : l.length ≤ 140737488351232) (hs : ∀ s ∈ l, s.length ≤ 140737488351232) (ha : ∀ a ∈ acts, a.ok) (hal : acts.length ≤ 140737488351232) : callT Try.prog 4 [.isl (strs l) l.length, .isl (rowA acts) acts.length] ⟨[], []⟩ (fun r h => r = .v (.bool true)) := by
  refine callT_of_body [0, 1, 4, 5, 6, 7, 8, 9, 10, 11, 12, 13, 14, 15, 16, 17, 18, 19, 20, 21, 22, 24, 26, 38, 126, 135, 145, 157, 163] [] Try.func4 rfl (by decide) (by kernel_rfl) rfl ?_
  have hsn := Snap_T l hl hs
  have hLl : (snapL l (min l.length 4)).length = min l.length 4 := snapL_len _ _
  have hLp : ∀ z ∈ snapL l (min l.length 4), z.length ≤ 1000 ∧ ∀ p ∈ z, 1 ≤ p.s.length ∧ p.s.length ≤ 100 ∧ p.h < 2 ^ 64 := fun z hz => by
    obtain ⟨i, _, rfl⟩ := List.mem_map.1 hz
    have hzl : 1 ≤ ((l.getD i [] ++ [33]).take 600).length ∧ ((l.getD i [] ++ [33]).take 600).length ≤ 600 := by simp; omega
    refine ⟨by unfold sn; rw [split_len]; omega, fun p hp => ?_⟩
    obtain ⟨j, hj, rfl⟩ := List.mem_map.1 hp
    have hj := List.mem_range.1 hj
    refine ⟨?_, pieceAt_s _ _ _, sumOf_lt _⟩
    simp only [pieceAt, List.length_take, List.length_drop]
    simp only [List.length_take] at hj hzl ⊢
    omega
  generalize snapL l (min l.length 4) = L at *
  rw [← hLl] at hsn
  have hL4 : L.length ≤ 4 := by omega
  simp
  refine callT_eq [] Awk11_T ?_
  simp
  refine callT_eq [] hsn ?_
  simp
  refine callT_ex2 [(1, 1001), (3, 29)] GNew_T ?_
  simp [i64c, u64c]
  intro w0 v29 v30
  refine ⟨Nat × List Pcs × Nat, fun x => x.1 ≤ acts.length ∧ x.1 ≤ 80 ∧ XI x.2.1, fun x => ⟨[(1, .isl (rowA acts) acts.length), (5, .isl (rowQQ L) L.length), (6, .at 29 v29 0), (7, .isl (rowQ x.2.1) x.2.1.length), (8, i64c x.1)], gatH 29 1001 v29 x.2.2 (gOf x.2.1)⟩, fun x => 80 - x.1, ?_, ?_⟩
  · refine SLx.frz 30 rfl (SLx.fin _ ⟨(0, [], w0), ⟨by simp, by simp, XI.nil⟩, rfl⟩ ?_ ?_)
    · simp [i64c, rowQ]
    · simp [gatH, Gth.cells, gOf, i64c, u64c]
  rintro ⟨i, x, w⟩ ⟨hi1, hi2, hI⟩
  simp only at hi1 hi2 hI ⊢
  by_cases g1 : i < acts.length
  · by_cases g2 : i < 80
    · have g1' : (i : Int) < acts.length := by omega
      have g2' : (i : Int) < 80 := by omega
      have ei : IntKind.i64.wrap ((i : Int) + 1) = ((i + 1 : Nat) : Int) := by rw [i64_id (by omega) (by omega)]; rfl
      have hat := rowA_at g1
      have hpc := Piece_T L acts[i] (ha _ (List.getElem_mem _)) hL4 (fun z hz => ⟨(hLp z hz).1, fun q hq => ⟨((hLp z hz).2 q hq).1, ((hLp z hz).2 q hq).2.1⟩⟩)
      have hpo := pieceF_ok (L := L) (a := acts[i]) (ha _ (List.getElem_mem _)) (fun z hz q hq => ⟨((hLp z hz).2 q hq).2.2, ((hLp z hz).2 q hq).2.1⟩)
      generalize pieceF L acts[i] = p at hpc hpo
      generalize acts[i] = a at hat hpc
      have hrx := hI.rng
      have hP := GPut_T v29 w (gOf x) p (by omega)
      rw [put_gOf] at hP
      have hPR := PutR_T x p (by omega) (by omega)
      have hTd := Told11_T p
      have hXI := hI.put hpo.1
      generalize putL x p = Y at hP hPR hXI
      obtain ⟨y, f⟩ := Y
      simp only at hP hPR hXI
      have hry := hXI.rng
      have hHv := fun w2 => GHave_T v29 w2 (gOf y) (by omega)
      have hWh := fun w2 => GWhole_T v29 w2 (gOf y) hry.1 hry.2.2.2.1 hry.2.1
      rw [whole_gOf hXI] at hWh
      have hWr := WholeR_T y (by omega) hry.2.2.2.2
      have hMs := fun w2 => GMiss_T v29 w2 (gOf y) 3 hry.1
      have hrl : (rowA acts).length = acts.length * 8 := length_rowA _
      simp only [gatH, Gth.cells] at hP hHv hWh hMs ⊢
      simp [CAct.cells, Pcs.cells, i64c, u64c] at hat hpc hTd hPR
      have hcl : ∀ k, 8 ≤ (acts.length - k) * 8 ∨ acts.length ≤ k := fun k => by omega
      simp [i64c, u64c, g1, g1', g2, g2', hat, hrl]
      refine callT_eq [] hpc ?_
      simp
      intro v9
      refine callT_ex [(1000, 29), (1001, 1001)] hP ?_
      simp [Pcs.cells, i64c, u64c]
      intro w2
      refine callT_eq [] hTd ?_
      simp
      refine callT_eq [] hPR ?_
      simp
      cases y with
      | nil =>
        have hn : (gOf []).n = 0 := rfl
        obtain ⟨G, hG⟩ : ∃ G, G = gOf [] := ⟨_, rfl⟩
        have hg : G.g = false := by rw [hG]; rfl
        have hw1 : wholeL [] = ([], 15) := rfl
        rw [hw1] at hWh hWr
        have hGm : (gOf []).m = nsOf [] := rfl
        obtain ⟨n, hnn⟩ : ∃ n : Nat, n = 0 := ⟨_, rfl⟩
        have hms : missL (gOf []).m 3 (gOf []).n = missL (nsOf []) 3 n := by rw [hn, hGm, hnn]
        rw [hms] at hMs
        rw [← hG] at hHv hWh hMs ⊢
        simp [hg, i64c, u64c] at hHv hWh hWr
        have hy : ([] : List Pcs).length = 0 := rfl
        simp only [i64c, u64c, hg] at hMs
        simp [hg]
        refine callT_eq [(1000, 29), (1001, 1001)] (hHv w2) ?_
        simp
        refine callT_eq [(1000, 29), (1001, 1001)] (hWh w2) ?_
        simp
        refine callT_eq [] hWr ?_
        simp
        rw [show (TV.v (.int .i64 0)) = TV.v (.int .i64 (n : Int)) by rw [hnn]; rfl]
        refine callT_eq [(1000, 29), (1001, 1001)] (hMs w2) ?_
        simp
        try refine ⟨by omega, ?_⟩
        refine loopT_of Nat (fun k => k ≤ n) (fun k => ⟨[(1, .isl (rowA acts) acts.length), (5, .isl (rowQQ L) L.length), (6, .at 29 v29 0), (7, .isl (rowQ ([] : List Pcs)) ([] : List Pcs).length), (8, i64c i), (14, i64c n), (20, .isl ((missL (nsOf ([] : List Pcs)) 3 n).map i64c) (missL (nsOf ([] : List Pcs)) 3 n).length), (21, i64c (missL (nsOf ([] : List Pcs)) 3 k).length), (22, i64c k)], [(29, v29, ⟨0, [i64c G.t, i64c G.b, u64c G.h, .v (.bool G.g), .mp 1001 w2]⟩), (1001, w2, ⟨0, mapC .i64 strT G.m⟩)]⟩) (fun k => n - k) 0 (by simp) (by simp [i64c, u64c, missL, Pcs.cells]) (by simp [i64c, u64c, hg, Pcs.cells]) ?_
        intro k hk
        have hst := missL_stop (m := nsOf ([] : List Pcs)) (most := 3) (k := k)
        have hsu : missL (nsOf ([] : List Pcs)) 3 (k + 1) = if ((missL (nsOf ([] : List Pcs)) 3 k).length : Int) < 3 ∧ lkp (k : Int) (nsOf ([] : List Pcs)) = none then missL (nsOf ([] : List Pcs)) 3 k ++ [(k : Int)] else missL (nsOf ([] : List Pcs)) 3 k := rfl
        have hml := missL_len (nsOf ([] : List Pcs)) 3 k
        have hF := FindR_T ([] : List Pcs) k (by first | omega | simp)
        by_cases gk : k < n
        · have gk' : (k : Int) < n := by omega
          have ek : IntKind.i64.wrap ((k : Int) + 1) = ((k + 1 : Nat) : Int) := by rw [i64_id (by omega) (by omega)]; rfl
          obtain ⟨r, hr⟩ := missL_pre (nsOf ([] : List Pcs)) 3 (k + 1) (n - (k + 1))
          rw [show k + 1 + (n - (k + 1)) = n by omega] at hr
          by_cases gm : ((missL (nsOf ([] : List Pcs)) 3 k).length : Int) < 3
          · simp [i64c, u64c] at hF
            cases hlk : lkp (k : Int) (nsOf ([] : List Pcs)) with
            | none =>
              rw [if_pos ⟨gm, hlk⟩] at hsu
              rw [hsu] at hr
              rw [hlk] at hF
              have hlt : (missL (nsOf ([] : List Pcs)) 3 k).length < (missL (nsOf ([] : List Pcs)) 3 n).length := by have := congrArg List.length hr; simp at this; omega
              have hat : List.drop (missL (nsOf ([] : List Pcs)) 3 k).length (List.map i64c (missL (nsOf ([] : List Pcs)) 3 n)) = i64c k :: List.map i64c r := by rw [hr]; simp
              generalize missL (nsOf ([] : List Pcs)) 3 n = Mn at *
              generalize hMk : missL (nsOf ([] : List Pcs)) 3 k = Mk at *
              have em : IntKind.i64.wrap ((Mk.length : Int) + 1) = ((Mk.length + 1 : Nat) : Int) := by rw [i64_id (by omega) (by omega)]; rfl
              have hge : ¬ (Mn.length : Int) ≤ Mk.length := by omega
              have hge' : ¬ Mn.length ≤ Mk.length := by omega
              simp [i64c, u64c, gk, gk', gm]
              refine callT_eq [] hF ?_
              simp [hge, hge', hlt, hat, i64c]
              try refine ⟨by simp [Pcs.cells, i64c, u64c], ?_⟩
              exact SLx.again (k + 1) (by omega) (by omega) (by simp [ek, em, hsu]) (by simp [i64c, u64c])
            | some z =>
              rw [if_neg (by rw [hlk]; simp)] at hsu
              rw [hlk] at hF
              simp [i64c, u64c, gk, gk', gm]
              refine callT_eq [] hF ?_
              simp
              try refine ⟨by simp [Pcs.cells, i64c, u64c], ?_⟩
              exact SLx.again (k + 1) (by omega) (by omega) (by simp [ek, hsu]) (by simp [i64c, u64c])
          · have e0 := hst gm (n - k)
            rw [show k + (n - k) = n by omega] at e0
            simp [i64c, u64c, gk, gk', gm, e0]
            exact SLx.again (i + 1, ([] : List Pcs), w2) ⟨by simp only; omega, by simp only; omega, hXI⟩ (by simp only; omega) (by simp [ei]) (by simp [gatH, Gth.cells, hG, i64c, u64c])
        · have hkn : k = n := by omega
          subst hkn
          simp [i64c, u64c]
          exact SLx.again (i + 1, ([] : List Pcs), w2) ⟨by simp only; omega, by simp only; omega, hXI⟩ (by simp only; omega) (by simp [ei]) (by simp [gatH, Gth.cells, hG, i64c, u64c])
      | cons q l =>
        have hn1 := pcN_rng (b := q.b) hry.1
        obtain ⟨n, hnn⟩ : ∃ n : Nat, pcN q.b = n := ⟨(pcN q.b).toNat, by omega⟩
        have hn : (gOf (q :: l)).n = n := by simp only [Gth.n, gOf, if_true, hnn]; simp
        obtain ⟨G, hG⟩ : ∃ G, G = gOf (q :: l) := ⟨_, rfl⟩
        have hg : G.g = true := by rw [hG]; rfl
        have hGm : (gOf (q :: l)).m = nsOf (q :: l) := rfl
        have hGt : (gOf (q :: l)).t = q.t := rfl
        have hGb : (gOf (q :: l)).b = q.b := rfl
        have hml : (nsOf (q :: l)).length = (q :: l).length := by simp [nsOf]
        have hcn := PcCountR_T q.b (by have := hry.1; rw [hGb] at this; omega)
        rw [hnn] at hcn
        have hms : missL (gOf (q :: l)).m 3 (gOf (q :: l)).n = missL (nsOf (q :: l)) 3 n := by rw [hn, hGm]
        rw [hms] at hMs
        have hml2 : (gOf (q :: l)).m.length = l.length + 1 := by rw [hGm, hml]; rfl
        have hpn2 : pcN (gOf (q :: l)).b = n := by rw [hGb, hnn]
        rw [hml2, hpn2] at hHv
        rw [← hG] at hGt
        generalize wholeL (q :: l) = Wv at hWh hWr
        obtain ⟨ws, wc⟩ := Wv
        simp only at hWh hWr
        rw [← hG] at hHv hWh hMs ⊢
        simp only [i64c, u64c, hg] at hMs
        simp [i64c] at hcn
        by_cases hwc : wc = 0
        · subst hwc
          simp [hg, Pcs.cells, i64c, u64c] at hHv hWh hWr
          simp [hg, Pcs.cells, i64c, u64c]
          refine callT_eq [(1000, 29), (1001, 1001)] (hHv w2) ?_
          simp
          refine callT_eq [(1000, 29), (1001, 1001)] (hWh w2) ?_
          simp
          refine callT_eq [] hWr ?_
          simp [hGt]
          refine ⟨by omega, ?_⟩
          refine callT_eq [] hcn ?_
          simp
          refine callT_eq [(1000, 29), (1001, 1001)] (hMs w2) ?_
          simp
          try refine ⟨by omega, ?_⟩
          refine loopT_of Nat (fun k => k ≤ n) (fun k => ⟨[(1, .isl (rowA acts) acts.length), (5, .isl (rowQQ L) L.length), (6, .at 29 v29 0), (7, .isl (rowQ (q :: l)) (q :: l).length), (8, i64c i), (14, i64c n), (20, .isl ((missL (nsOf (q :: l)) 3 n).map i64c) (missL (nsOf (q :: l)) 3 n).length), (21, i64c (missL (nsOf (q :: l)) 3 k).length), (22, i64c k)], [(29, v29, ⟨0, [i64c G.t, i64c G.b, u64c G.h, .v (.bool G.g), .mp 1001 w2]⟩), (1001, w2, ⟨0, mapC .i64 strT G.m⟩)]⟩) (fun k => n - k) 0 (by simp) (by simp [i64c, u64c, missL, Pcs.cells]) (by simp [i64c, u64c, hg, Pcs.cells]) ?_
          intro k hk
          have hst := missL_stop (m := nsOf (q :: l)) (most := 3) (k := k)
          have hsu : missL (nsOf (q :: l)) 3 (k + 1) = if ((missL (nsOf (q :: l)) 3 k).length : Int) < 3 ∧ lkp (k : Int) (nsOf (q :: l)) = none then missL (nsOf (q :: l)) 3 k ++ [(k : Int)] else missL (nsOf (q :: l)) 3 k := rfl
          have hml := missL_len (nsOf (q :: l)) 3 k
          have hF := FindR_T (q :: l) k (by first | omega | simp)
          by_cases gk : k < n
          · have gk' : (k : Int) < n := by omega
            have ek : IntKind.i64.wrap ((k : Int) + 1) = ((k + 1 : Nat) : Int) := by rw [i64_id (by omega) (by omega)]; rfl
            obtain ⟨r, hr⟩ := missL_pre (nsOf (q :: l)) 3 (k + 1) (n - (k + 1))
            rw [show k + 1 + (n - (k + 1)) = n by omega] at hr
            by_cases gm : ((missL (nsOf (q :: l)) 3 k).length : Int) < 3
            · simp [i64c, u64c] at hF
              cases hlk : lkp (k : Int) (nsOf (q :: l)) with
              | none =>
                rw [if_pos ⟨gm, hlk⟩] at hsu
                rw [hsu] at hr
                rw [hlk] at hF
                have hlt : (missL (nsOf (q :: l)) 3 k).length < (missL (nsOf (q :: l)) 3 n).length := by have := congrArg List.length hr; simp at this; omega
                have hat : List.drop (missL (nsOf (q :: l)) 3 k).length (List.map i64c (missL (nsOf (q :: l)) 3 n)) = i64c k :: List.map i64c r := by rw [hr]; simp
                generalize missL (nsOf (q :: l)) 3 n = Mn at *
                generalize hMk : missL (nsOf (q :: l)) 3 k = Mk at *
                have em : IntKind.i64.wrap ((Mk.length : Int) + 1) = ((Mk.length + 1 : Nat) : Int) := by rw [i64_id (by omega) (by omega)]; rfl
                have hge : ¬ (Mn.length : Int) ≤ Mk.length := by omega
                have hge' : ¬ Mn.length ≤ Mk.length := by omega
                simp [i64c, u64c, gk, gk', gm]
                refine callT_eq [] hF ?_
                simp [hge, hge', hlt, hat, i64c]
                try refine ⟨by simp [Pcs.cells, i64c, u64c], ?_⟩
                exact SLx.again (k + 1) (by omega) (by omega) (by simp [ek, em, hsu]) (by simp [i64c, u64c])
              | some z =>
                rw [if_neg (by rw [hlk]; simp)] at hsu
                rw [hlk] at hF
                simp [i64c, u64c, gk, gk', gm]
                refine callT_eq [] hF ?_
                simp
                try refine ⟨by simp [Pcs.cells, i64c, u64c], ?_⟩
                exact SLx.again (k + 1) (by omega) (by omega) (by simp [ek, hsu]) (by simp [i64c, u64c])
            · have e0 := hst gm (n - k)
              rw [show k + (n - k) = n by omega] at e0
              simp [i64c, u64c, gk, gk', gm, e0]
              exact SLx.again (i + 1, (q :: l), w2) ⟨by simp only; omega, by simp only; omega, hXI⟩ (by simp only; omega) (by simp [ei]) (by simp [gatH, Gth.cells, hG, i64c, u64c])
          · have hkn : k = n := by omega
            subst hkn
            simp [i64c, u64c]
            exact SLx.again (i + 1, (q :: l), w2) ⟨by simp only; omega, by simp only; omega, hXI⟩ (by simp only; omega) (by simp [ei]) (by simp [gatH, Gth.cells, hG, i64c, u64c])
        · simp [hg, hwc, Pcs.cells, i64c, u64c] at hHv hWh hWr
          simp [hg, Pcs.cells, i64c, u64c]
          refine callT_eq [(1000, 29), (1001, 1001)] (hHv w2) ?_
          simp
          refine callT_eq [(1000, 29), (1001, 1001)] (hWh w2) ?_
          simp
          refine callT_eq [] hWr ?_
          simp [hwc, hGt]
          try refine ⟨by omega, ?_⟩
          refine callT_eq [] hcn ?_
          simp
          refine callT_eq [(1000, 29), (1001, 1001)] (hMs w2) ?_
          simp
          try refine ⟨by omega, ?_⟩
          refine loopT_of Nat (fun k => k ≤ n) (fun k => ⟨[(1, .isl (rowA acts) acts.length), (5, .isl (rowQQ L) L.length), (6, .at 29 v29 0), (7, .isl (rowQ (q :: l)) (q :: l).length), (8, i64c i), (14, i64c n), (20, .isl ((missL (nsOf (q :: l)) 3 n).map i64c) (missL (nsOf (q :: l)) 3 n).length), (21, i64c (missL (nsOf (q :: l)) 3 k).length), (22, i64c k)], [(29, v29, ⟨0, [i64c G.t, i64c G.b, u64c G.h, .v (.bool G.g), .mp 1001 w2]⟩), (1001, w2, ⟨0, mapC .i64 strT G.m⟩)]⟩) (fun k => n - k) 0 (by simp) (by simp [i64c, u64c, missL, Pcs.cells]) (by simp [i64c, u64c, hg, Pcs.cells]) ?_
          intro k hk
          have hst := missL_stop (m := nsOf (q :: l)) (most := 3) (k := k)
          have hsu : missL (nsOf (q :: l)) 3 (k + 1) = if ((missL (nsOf (q :: l)) 3 k).length : Int) < 3 ∧ lkp (k : Int) (nsOf (q :: l)) = none then missL (nsOf (q :: l)) 3 k ++ [(k : Int)] else missL (nsOf (q :: l)) 3 k := rfl
          have hml := missL_len (nsOf (q :: l)) 3 k
          have hF := FindR_T (q :: l) k (by first | omega | simp)
          by_cases gk : k < n
          · have gk' : (k : Int) < n := by omega
            have ek : IntKind.i64.wrap ((k : Int) + 1) = ((k + 1 : Nat) : Int) := by rw [i64_id (by omega) (by omega)]; rfl
            obtain ⟨r, hr⟩ := missL_pre (nsOf (q :: l)) 3 (k + 1) (n - (k + 1))
            rw [show k + 1 + (n - (k + 1)) = n by omega] at hr
            by_cases gm : ((missL (nsOf (q :: l)) 3 k).length : Int) < 3
            · simp [i64c, u64c] at hF
              cases hlk : lkp (k : Int) (nsOf (q :: l)) with
              | none =>
                rw [if_pos ⟨gm, hlk⟩] at hsu
                rw [hsu] at hr
                rw [hlk] at hF
                have hlt : (missL (nsOf (q :: l)) 3 k).length < (missL (nsOf (q :: l)) 3 n).length := by have := congrArg List.length hr; simp at this; omega
                have hat : List.drop (missL (nsOf (q :: l)) 3 k).length (List.map i64c (missL (nsOf (q :: l)) 3 n)) = i64c k :: List.map i64c r := by rw [hr]; simp
                generalize missL (nsOf (q :: l)) 3 n = Mn at *
                generalize hMk : missL (nsOf (q :: l)) 3 k = Mk at *
                have em : IntKind.i64.wrap ((Mk.length : Int) + 1) = ((Mk.length + 1 : Nat) : Int) := by rw [i64_id (by omega) (by omega)]; rfl
                have hge : ¬ (Mn.length : Int) ≤ Mk.length := by omega
                have hge' : ¬ Mn.length ≤ Mk.length := by omega
                simp [i64c, u64c, gk, gk', gm]
                refine callT_eq [] hF ?_
                simp [hge, hge', hlt, hat, i64c]
                try refine ⟨by simp [Pcs.cells, i64c, u64c], ?_⟩
                exact SLx.again (k + 1) (by omega) (by omega) (by simp [ek, em, hsu]) (by simp [i64c, u64c])
              | some z =>
                rw [if_neg (by rw [hlk]; simp)] at hsu
                rw [hlk] at hF
                simp [i64c, u64c, gk, gk', gm]
                refine callT_eq [] hF ?_
                simp
                try refine ⟨by simp [Pcs.cells, i64c, u64c], ?_⟩
                exact SLx.again (k + 1) (by omega) (by omega) (by simp [ek, hsu]) (by simp [i64c, u64c])
            · have e0 := hst gm (n - k)
              rw [show k + (n - k) = n by omega] at e0
              simp [i64c, u64c, gk, gk', gm, e0]
              exact SLx.again (i + 1, (q :: l), w2) ⟨by simp only; omega, by simp only; omega, hXI⟩ (by simp only; omega) (by simp [ei]) (by simp [gatH, Gth.cells, hG, i64c, u64c])
          · have hkn : k = n := by omega
            subst hkn
            simp [i64c, u64c]
            exact SLx.again (i + 1, (q :: l), w2) ⟨by simp only; omega, by simp only; omega, hXI⟩ (by simp only; omega) (by simp [ei]) (by simp [gatH, Gth.cells, hG, i64c, u64c])
    · have g1' : (i : Int) < acts.length := by omega
      have g2' : ¬ (i : Int) < 80 := by omega
      simp [gatH, Gth.cells, i64c, u64c, g1, g1', g2, g2']
  · have g1' : ¬ (i : Int) < acts.length := by omega
    simp [gatH, Gth.cells, i64c, u64c, g1, g1']
end Go.Proofs.Ytijgbinkdjekoaa.TL
