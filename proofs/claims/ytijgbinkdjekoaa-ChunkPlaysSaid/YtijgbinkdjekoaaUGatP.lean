/- Chunk's laws: the reference's Whole, the acts' pieces. -/
import Derived.Test.YtijgbinkdjekoaaUGatW
import Derived.Test.YtijgbinkdjekoaaUDecC
namespace Go.Proofs.Ytijgbinkdjekoaa.TL
open Go
set_option linter.unusedVariables false
set_option linter.unusedSimpArgs false

theorem u8_u64 (c : UInt8) : IntKind.u64.wrap (c.toNat : Int) = (c.toNat : Int) := by
  have := c.toNat_lt
  rw [IntKind.wrap_u64]
  omega
set_option maxRecDepth 100000 in
theorem SumR_T (s : List UInt8) (hs : s.length ≤ 4611686018427387904) : callT Try.prog 38 [.v (.string (bs s))] ⟨[], []⟩ (fun x h => x = u64c (sumOf s) ∧ h = []) := by
  refine callT_of_body [0, 2, 3, 4, 8] [] Try.func38 rfl (by decide) (by kernel_rfl) rfl ?_
  simp
  refine loopT_of Nat (fun k => k ≤ s.length) (fun k => ⟨[(0, .v (.string (bs s))), (3, .v (.int .u64 (fnvL 14695981039346656037 (s.take k)))), (4, .v (.int .i64 k))], []⟩) (fun k => s.length - k) 0 (by simp) (by simp [fnvL]) (by simp) ?_
  intro k hk
  by_cases g : k < s.length
  · have g' : (k : Int) < s.length := by omega
    have e1 : IntKind.i64.wrap ((k : Int) + 1) = ((k + 1 : Nat) : Int) := by rw [i64_id (by omega) (by omega)]; rfl
    have hsn := fnvL_snoc 14695981039346656037 g
    have hc := u8_u64 s[k]
    have hat : s[k]? = some s[k] := List.getElem?_eq_getElem g
    generalize fnvL 14695981039346656037 (s.take k) = F at hsn ⊢
    simp [g, g', hat, hc]
    exact SLx.again (k + 1) (by omega) (by omega) (by simp [e1, hsn, fnv1]) (by simp)
  · have : k = s.length := by omega
    subst this
    simp [sumOf_eq, u64c]
def wholeL (x : List Pcs) : List UInt8 × Int :=
  match x with
  | [] => ([], 15)
  | q :: l => if ((q :: l).length : Int) < pcN q.b then ([], 15)
    else if sumOf (catL (nsOf (q :: l)) (q :: l).length) ≠ q.h then ([], 5) else (catL (nsOf (q :: l)) (q :: l).length, 0)
theorem nsOf_len {x : List Pcs} (h : ∀ p ∈ x, p.s.length ≤ 100) : ∀ p ∈ nsOf x, p.2.length ≤ 100 := fun p hp => by
  obtain ⟨q, hq, rfl⟩ := List.mem_map.1 hp
  exact h q hq
set_option maxHeartbeats 4000000 in
set_option maxRecDepth 100000 in
theorem WholeR_T (x : List Pcs) (hx : x.length ≤ 1000) (hm : ∀ p ∈ x, p.s.length ≤ 100 ∧ p.b ≤ 65536) : callT Try.prog 18 [.isl (rowQ x) x.length] ⟨[], []⟩ (fun r h => r = .tup [.v (.string (bs (wholeL x).1)), i64c (wholeL x).2] ∧ h = []) := by
  refine callT_of_body [0, 2, 3, 4, 5, 6, 20, 24, 42] [] Try.func18 rfl (by decide) (by kernel_rfl) rfl ?_
  by_cases hx0 : x.length = 0
  · have : x = [] := List.eq_nil_of_length_eq_zero hx0
    subst this
    simp [wholeL, i64c, bs_nil]
  · have hx1 : 0 < x.length := by omega
    have hw : ∀ q l, x = q :: l → wholeL x = if (x.length : Int) < pcN x[0].b then ([], 15) else if sumOf (catL (nsOf x) x.length) ≠ x[0].h then ([], 5) else (catL (nsOf x) x.length, 0) := fun q l h => by subst h; rfl
    have hw2 : wholeL x = if (x.length : Int) < pcN x[0].b then ([], 15) else if sumOf (catL (nsOf x) x.length) ≠ x[0].h then ([], 5) else (catL (nsOf x) x.length, 0) := by
      cases x with
      | nil => simp at hx1
      | cons q l => exact hw q l rfl
    clear hw
    generalize wholeL x = W at hw2
    have hb0 := (hm x[0] (List.getElem_mem _)).2
    have hcn := PcCountR_T x[0].b (by omega)
    have hcl := catL_len (m := nsOf x) (nsOf_len fun p hp => (hm p hp).1)
    have hr := rowQ_at hx1
    simp only [Nat.zero_mul, List.drop_zero] at hr
    have d1 : List.drop 1 (rowQ x) = i64c x[0].b :: u64c x[0].h :: i64c x[0].n :: .v (.string (bs x[0].s)) :: rowQ (x.drop 1) := by rw [hr]; rfl
    have d2 : List.drop 2 (rowQ x) = u64c x[0].h :: i64c x[0].n :: .v (.string (bs x[0].s)) :: rowQ (x.drop 1) := by rw [hr]; rfl
    clear hr
    have hF := fun n => FindR_T x n (by omega)
    have hL5 : (rowQ x).length = x.length * 5 := rowQ_length x
    simp [i64c] at hcn
    simp [hx0, hx1, d1, i64c]
    refine callT_eq [] hcn ?_
    by_cases hlt : (x.length : Int) < pcN x[0].b
    · rw [if_pos hlt] at hw2
      subst hw2
      simp [hlt, bs_nil]
    · rw [if_neg hlt] at hw2
      have hge : pcN x[0].b ≤ x.length := by omega
      simp [hlt, hge]
      refine loopT_of Nat (fun k => k ≤ x.length) (fun k => ⟨[(0, .isl (rowQ x) x.length), (4, .v (.string (bs (catL (nsOf x) k)))), (5, .v (.int .i64 k))], []⟩) (fun k => x.length - k) 0 (by simp) (by simp [catL, bs_nil]) (by simp) ?_
      intro k hk
      by_cases g : k < x.length
      · have g' : (k : Int) < x.length := by omega
        have e1 : IntKind.i64.wrap ((k : Int) + 1) = ((k + 1 : Nat) : Int) := by rw [i64_id (by omega) (by omega)]; rfl
        have hf := hF k
        have h1 := hcl (k + 1)
        simp only [catL, List.length_append] at h1
        simp [i64c] at hf
        simp [g, g']
        refine callT_eq [] hf ?_
        simp
        refine ⟨by omega, ?_⟩
        exact SLx.again (k + 1) (by omega) (by omega) (by simp [e1, catL]) (by simp)
      · have : k = x.length := by omega
        have h1 := hcl k
        have hs := SumR_T (catL (nsOf x) k) (by omega)
        rw [this] at hs ⊢
        simp [u64c] at hs
        simp
        refine draw_g [0, 2, 3, 4, 5, 1] 6 [(1, [0])] (by kernel_rfl) (by kernel_rfl) (by kernel_rfl) ?_
        simp [hx1, d2, u64c]
        refine callT_eq [] hs ?_
        by_cases he : sumOf (catL (nsOf x) x.length) = x[0].h
        · rw [if_neg (by simp [he])] at hw2
          subst hw2
          simp [hx1, d2, u64c, he]
        · rw [if_pos he] at hw2
          subst hw2
          have he' : ¬ (sumOf (catL (nsOf x) x.length) : Int) = x[0].h := by omega
          simp [hx1, d2, u64c, he', bs_nil]
/-- Some snapshots. -/
def sn (l : List (List UInt8)) (i : Nat) : List Pcs := split i (((l.getD i []) ++ [33]).take 600)
def snapL (l : List (List UInt8)) (k : Nat) : List (List Pcs) := (List.range k).map (sn l)
def rowQQ (L : List (List Pcs)) : List TV := L.map fun q => .isl (rowQ q) q.length
theorem snapL_succ (l : List (List UInt8)) (k : Nat) : snapL l (k + 1) = snapL l k ++ [sn l k] := by simp [snapL, List.range_succ]
@[simp] theorem snapL_len (l : List (List UInt8)) (k : Nat) : (snapL l k).length = k := by simp [snapL]
@[simp] theorem rowQQ_len (L : List (List Pcs)) : (rowQQ L).length = L.length := by simp [rowQQ]
theorem rowQQ_snoc (L : List (List Pcs)) (q : List Pcs) : rowQQ (L ++ [q]) = rowQQ L ++ [.isl (rowQ q) q.length] := by simp [rowQQ]
theorem u8_inc (c : UInt8) : IntKind.u8.wrap ((c.toNat : Int) + 1) = ((UInt8.ofNat (c.toNat + 1)).toNat : Int) := by
  rw [IntKind.wrap_u8, UInt8.toNat_ofNat']
  omega
set_option maxHeartbeats 4000000 in
set_option maxRecDepth 100000 in
theorem Snap_T (l : List (List UInt8)) (hl : l.length ≤ 140737488351232) (hs : ∀ s ∈ l, s.length ≤ 140737488351232) : callT Try.prog 14 [.isl (strs l) l.length] ⟨[], []⟩ (fun x h => x = .isl (rowQQ (snapL l (min l.length 4))) (min l.length 4) ∧ h = []) := by
  refine callT.mono (K := fun x h => ∃ u, x = .sl 1001 u 0 (min l.length 4) ∧ h = [(1001, u, ⟨1, rowQQ (snapL l (min l.length 4))⟩)]) ?_ fun x h hh => ?_
  · refine callT_of_body [0, 2, 3, 4, 12] [1001] Try.func14 rfl (by decide) (by kernel_rfl) rfl ?_
    obtain ⟨n, hn, hn4, hnl⟩ : ∃ n, n = min l.length 4 ∧ n ≤ 4 ∧ n ≤ l.length := ⟨_, rfl, by omega, by omega⟩
    have hmn : ∀ k, k < n ↔ (k < l.length ∧ k < 4) := fun k => by omega
    rw [← hn]
    clear hn
    simp
    refine ⟨Nat × Nat, fun x => x.1 ≤ n, fun x => ⟨[(0, .isl (strs l) l.length), (3, .sl 1001 x.2 0 x.1), (4, .v (.int .i64 x.1))], [(1001, x.2, ⟨1, rowQQ (snapL l x.1)⟩)]⟩, fun x => n - x.1, ?_, ?_⟩
    · refine SLx.nil 3 1001 1 (by decide) (by simp) fun u => SLx.fin _ ⟨(0, u), by simp, rfl⟩ ?_ ?_
      · simp
      · simp [setH, snapL, rowQQ]
    rintro ⟨k, u⟩ hk
    simp only at hk ⊢
    by_cases g : k < n
    · obtain ⟨g1, g2⟩ := (hmn k).1 g
      have g1' : (k : Int) < l.length := by omega
      have g2' : (k : Int) < 4 := by omega
      have e1 : IntKind.i64.wrap ((k : Int) + 1) = ((k + 1 : Nat) : Int) := by rw [i64_id (by omega) (by omega)]; rfl
      have hat := strs_at g1
      have hsl := hs l[k] (List.getElem_mem _)
      have hgd : l.getD k [] = l[k] := by simp [g1]
      have hcut := Cut_T (l[k] ++ [33]) 600 (by decide)
      have hsp := Split_T k ((l[k] ++ [33]).take 600) (by simp; omega)
      have hsn : sn l k = split k ((l[k] ++ [33]).take 600) := by unfold sn; rw [hgd]
      rw [← hsn] at hsp
      have hS := snapL_succ l k
      have hSl := snapL_len l k
      generalize snapL l k = F at hS hSl ⊢
      have htk : List.take k (rowQQ F) = rowQQ F := List.take_of_length_le (by simp; omega)
      have hdr : List.drop (k + 1) (rowQQ F) = [] := List.drop_of_length_le (by simp; omega)
      generalize (l[k] ++ [33]).take 600 = z at hcut hsp
      simp [i64c] at hsp
      simp [g1, g1', g2, g2', hat]
      refine ⟨by omega, ?_⟩
      refine callT_eq [] hcut ?_
      simp
      refine callT_eq [] hsp ?_
      simp
      intro v24
      refine ⟨by omega, by omega, by omega, fun u2 => ?_⟩
      exact SLx.again (k + 1, u2) (by simp only; omega) (by simp only; omega) (by simp [e1]) (by simp [hS, rowQQ_snoc, htk, hdr])
    · have hkn : k = n := by omega
      subst hkn
      have g : ¬ (k < l.length ∧ k < 4) := fun h => by have := (hmn k).2 h; omega
      by_cases g1 : k < l.length
      · have g2 : ¬ k < 4 := fun h => g ⟨g1, h⟩
        have g1' : (k : Int) < l.length := by omega
        have g2' : ¬ (k : Int) < 4 := by omega
        simp [g1, g1', g2, g2']
      · have g1' : ¬ (k : Int) < l.length := by omega
        simp [g1, g1']
  · obtain ⟨u, rfl, rfl⟩ := hh
    refine VLx.frz 1001 rfl (VLx.done ?_)
    have : List.take (min l.length 4) (rowQQ (snapL l (min l.length 4))) = rowQQ (snapL l (min l.length 4)) := List.take_of_length_le (by simp)
    simp [this]
/-- The piece of an act. -/
def bent (p : Pcs) : Pcs := ⟨p.t, p.b, p.h, p.n, match p.s with | [] => [] | c :: l => UInt8.ofNat (c.toNat + 1) :: l⟩
def pieceF (L : List (List Pcs)) (a : CAct) : Pcs :=
  if a.k = 0 ∨ L = [] then ⟨a.p.t, a.p.b, a.p.h, a.p.n, a.p.s.take 120⟩
  else
    let l := L.getD ((a.w % 256).tmod L.length).toNat []
    if l = [] then ⟨a.p.t, a.p.b, a.p.h, a.p.n, a.p.s.take 120⟩
    else
      let p := l.getD ((a.n % 256).tmod l.length).toNat ⟨0, 0, 0, 0, []⟩
      if a.k = 2 then bent p else p
def CAct.ok (a : CAct) : Prop := a.p.h < 2 ^ 64 ∧ a.p.s.length ≤ 140737488351232
theorem tmod_nat (z : Int) {N : Nat} (h : 0 < N) : ((z % 256).tmod (N : Int)) = ((((z % 256).tmod (N : Int)).toNat : Nat) : Int) ∧ ((z % 256).tmod (N : Int)).toNat < N := by
  rw [Int.tmod_eq_emod_of_nonneg (by omega)]
  have h1 := Int.emod_nonneg (z % 256) (show (N : Int) ≠ 0 by omega)
  have h2 := Int.emod_lt_of_pos (z % 256) (show (0 : Int) < N by omega)
  omega
theorem rowQQ_at {L : List (List Pcs)} {k : Nat} (h : k < L.length) : List.drop k (rowQQ L) = .isl (rowQ L[k]) L[k].length :: List.drop (k + 1) (rowQQ L) := by
  rw [List.drop_eq_getElem_cons (by simpa using h)]
  simp [rowQQ]
set_option maxHeartbeats 8000000 in
set_option maxRecDepth 100000 in
theorem Piece_T (L : List (List Pcs)) (a : CAct) (ha : a.ok) (hL : L.length ≤ 4) (hl : ∀ l ∈ L, l.length ≤ 1000 ∧ ∀ p ∈ l, 1 ≤ p.s.length ∧ p.s.length ≤ 100) : callT Try.prog 15 [.isl (rowQQ L) L.length, .agg a.cells] ⟨[], []⟩ (fun x h => x = .agg (pieceF L a).cells ∧ h = []) := by
  refine callT_of_body [0, 1, 3, 4, 5, 6, 7, 21, 34, 47] [] Try.func15 rfl (by decide) (by kernel_rfl) rfl ?_
  obtain ⟨ak, aw, an, pt, pb, ph, pn, ps⟩ := a
  have hcut := Cut_T ps 120 (by decide)
  have ew := i64_and255 aw
  have en := i64_and255 an
  simp [CAct.cells, Pcs.cells, i64c, u64c]
  intro v3 v4 v5
  refine callT_eq [] hcut ?_
  by_cases h0 : ak = 0
  · simp [h0, pieceF, Pcs.cells, i64c, u64c]
  by_cases h1 : L = []
  · have h1' : L.length = 0 := by rw [h1]; rfl
    simp [h0, h1, pieceF, Pcs.cells, i64c, u64c]
  have hLp : 0 < L.length := List.length_pos_iff.2 h1
  have hL0 : ¬ L.length = 0 := by omega
  obtain ⟨m1, m2⟩ := tmod_nat aw hLp
  generalize hM : ((aw % 256).tmod (L.length : Int)).toNat = M at m1 m2
  have hgd : L.getD M [] = L[M] := by simp [m2]
  have hat := rowQQ_at m2
  have hlm := hl L[M] (List.getElem_mem _)
  have hpf : pieceF L ⟨ak, aw, an, ⟨pt, pb, ph, pn, ps⟩⟩ = if L[M] = [] then ⟨pt, pb, ph, pn, ps.take 120⟩ else if ak = 2 then bent (L[M].getD ((an % 256).tmod L[M].length).toNat ⟨0, 0, 0, 0, []⟩) else L[M].getD ((an % 256).tmod L[M].length).toNat ⟨0, 0, 0, 0, []⟩ := by
    unfold pieceF
    simp only [h0, h1, or_self, if_false, hM, hgd]
  rw [hpf]
  generalize L[M] = l at hat hlm ⊢
  by_cases h2 : l = []
  · subst h2
    simp [h0, h1, hL0, ew, m1, m2, hat, Pcs.cells, i64c, u64c]
  have hlp : 0 < l.length := List.length_pos_iff.2 h2
  have hl0 : ¬ l.length = 0 := by omega
  obtain ⟨j1, j2⟩ := tmod_nat an hlp
  generalize hJ : ((an % 256).tmod (l.length : Int)).toNat = J at j1 j2
  have hgd2 : l.getD J ⟨0, 0, 0, 0, []⟩ = l[J] := by simp [j2]
  have hat2 := rowQ_at j2
  have hps := hlm.2 l[J] (List.getElem_mem _)
  have hrl : (rowQ l).length = l.length * 5 := rowQ_length l
  rw [if_neg h2, hgd2]
  generalize l[J] = p at hat2 hps ⊢
  by_cases h3 : ak = 2
  · subst h3
    obtain ⟨qt, qb, qh, qn, qs⟩ := p
    obtain ⟨c, rest, rfl⟩ : ∃ c rest, qs = c :: rest := by
      cases qs with
      | nil => simp at hps
      | cons c r => exact ⟨c, r, rfl⟩
    have hinc := u8_inc c
    simp only [bent]
    generalize UInt8.ofNat (c.toNat + 1) = c' at hinc ⊢
    simp [h0, h1, hL0, hl0, h2, ew, en, m1, m2, j1, j2, hat, hat2, hrl, Pcs.cells, i64c, u64c, bv, hinc]
    exact ⟨⟨c' :: rest, rfl⟩, by rw [show TV.v (.int .u8 (c'.toNat : Int)) = bv c' from rfl, unbv_bv]⟩
  · simp [h0, h1, h3, hL0, hl0, h2, ew, en, m1, m2, j1, j2, hat, hat2, hrl, Pcs.cells, i64c, u64c]
end Go.Proofs.Ytijgbinkdjekoaa.TL
