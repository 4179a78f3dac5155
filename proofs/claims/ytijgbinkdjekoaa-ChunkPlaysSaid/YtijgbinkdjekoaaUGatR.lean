/- The reference's pieces that came: Put, Find, Whole. -/
import Derived.Test.YtijgbinkdjekoaaUGat
namespace Go.Proofs.Ytijgbinkdjekoaa.TL
open Go
set_option linter.unusedVariables false
set_option linter.unusedSimpArgs false

def likeP (a b : Pcs) : Bool := decide (a.t = b.t) && (decide (a.b = b.b) && decide (a.h = b.h))
def nsOf (x : List Pcs) : List (Int × List UInt8) := x.map fun p => (p.n, p.s)
def putL (x : List Pcs) (p : Pcs) : List Pcs × Int :=
  if p.chk ≠ 0 then (x, p.chk)
  else match x with
    | [] => ([p], 0)
    | q :: l => if likeP q p = false then (if p.t ≤ q.t then (q :: l, 11) else ([p], 0))
      else if (lkp p.n (nsOf (q :: l))).isSome = true then (q :: l, 10) else (q :: l ++ [p], 0)
theorem LikeR_T (a b : Pcs) : callT Try.prog 37 [.agg a.cells, .agg b.cells] ⟨[], []⟩ (fun x h => x = .v (.bool (likeP a b)) ∧ h = []) := by
  refine callT_of_body [0, 1, 2, 3, 4] [] Try.func37 rfl (by decide) (by kernel_rfl) rfl ?_
  simp [Pcs.cells, i64c, u64c, likeP]
  by_cases h1 : a.t = b.t <;> by_cases h2 : a.b = b.b <;> by_cases h3 : (a.h : Int) = b.h <;> simp [h1, h2, h3] <;> omega
theorem allC_rowQ (x : List Pcs) : AllC (List.take (x.length * 5) (rowQ x)) := by
  rw [rowQ_tk]
  intro y hy
  simp only [rowQ, List.mem_flatten, List.mem_map] at hy
  obtain ⟨l, ⟨p, _, rfl⟩, hy⟩ := hy
  simp only [Pcs.cells, i64c, u64c, List.mem_cons, List.not_mem_nil, or_false] at hy
  rcases hy with rfl | rfl | rfl | rfl | rfl <;> rfl
theorem lkp_drop {x : List Pcs} {n : Int} {k : Nat} (h : k < x.length) : lkp n (nsOf (x.drop k)) = if x[k].n = n then some x[k].s else lkp n (nsOf (x.drop (k + 1))) := by
  rw [List.drop_eq_getElem_cons h]
  simp only [nsOf, List.map_cons, lkp]
set_option maxHeartbeats 2000000 in
set_option maxRecDepth 100000 in
theorem FindR_T (x : List Pcs) (n : Int) (hx : x.length ≤ 1000000) : callT Try.prog 21 [.isl (rowQ x) x.length, i64c n] ⟨[], []⟩ (fun r h => r = .tup [.v (.string (bs ((lkp n (nsOf x)).getD []))), .v (.bool (lkp n (nsOf x)).isSome)] ∧ h = []) := by
  refine callT_of_body [0, 1, 4, 5, 7, 8, 9, 10, 11, 17] [] Try.func21 rfl (by decide) (by kernel_rfl) rfl ?_
  simp
  refine loopT_of Nat (fun k => k ≤ x.length ∧ lkp n (nsOf x) = lkp n (nsOf (x.drop k))) (fun k => ⟨[(1, i64c n), (8, .isl (rowQ x) x.length), (9, .v (.int .i64 x.length)), (10, .v (.int .i64 k))], []⟩) (fun k => x.length - k) 0 (by simp) (by simp [i64c]) (by simp) ?_
  rintro k ⟨hk, hI⟩
  by_cases g : k < x.length
  · have hat := rowQ_at g
    have hd := lkp_drop (n := n) g
    have e1 : IntKind.i64.wrap ((k : Int) + 1) = ((k + 1 : Nat) : Int) := by rw [i64_id (by omega) (by omega)]; rfl
    rw [hI]
    by_cases hn : x[k].n = n
    · rw [if_pos hn] at hd
      simp [g, hat, i64c, u64c, hn, hd]
    · rw [if_neg hn] at hd
      simp [g, hat, i64c, u64c, hn]
      intro v7
      exact SLx.again (k + 1) ⟨by omega, hd⟩ (by omega) (by simp [e1]) (by simp)
  · have : k = x.length := by omega
    subst this
    rw [hI]
    simp [nsOf, lkp, bs_nil]
set_option maxHeartbeats 8000000 in
set_option maxRecDepth 100000 in
theorem PutR_T (x : List Pcs) (p : Pcs) (hx : x.length ≤ 1000000) (hp : p.s.length ≤ 4611686018427387904) : callT Try.prog 16 [.isl (rowQ x) x.length, .agg p.cells] ⟨[], []⟩ (fun r h => r = .tup [.isl (rowQ (putL x p).1) (putL x p).1.length, i64c (putL x p).2] ∧ h = []) := by
  refine callT.mono (K := fun r h => (r = .tup [.isl (rowQ (putL x p).1) (putL x p).1.length, i64c (putL x p).2] ∧ h = []) ∨ (putL x p = ([p], 0) ∧ ∃ u, r = .tup [.sl 47 u 0 1, i64c 0] ∧ h = [(47, u, ⟨5, p.cells⟩)]) ∨ (putL x p = (x ++ [p], 0) ∧ ∃ u, r = .tup [.sl 61 u 0 (x.length + 1), i64c 0] ∧ h = [(61, u, ⟨5, rowQ x ++ p.cells⟩)])) ?_ fun r h hh => ?_
  · refine callT_of_body [0, 1, 3, 4, 5, 7, 10, 33, 45, 48, 49, 50, 51, 58] [47, 61] Try.func16 rfl (by decide) (by kernel_rfl) rfl ?_
    have hchk := PcChkR_T p hp
    simp [Pcs.cells, i64c, u64c] at hchk
    simp [Pcs.cells, i64c, u64c]
    intro v3
    refine callT_eq [] hchk ?_
    by_cases hc : p.chk = 0
    · simp [hc]
      have hlk : ∀ q, callT Try.prog 37 [.agg [.v (.int .i64 q.t), .v (.int .i64 q.b), .v (.int .u64 q.h), .v (.int .i64 q.n), .v (.string (bs q.s))], .agg [.v (.int .i64 p.t), .v (.int .i64 p.b), .v (.int .u64 p.h), .v (.int .i64 p.n), .v (.string (bs p.s))]] ⟨[], []⟩ (fun x h => x = .v (.bool (likeP q p)) ∧ h = []) := fun q => LikeR_T q p
      by_cases hx0 : x.length = 0
      · have hx1 : x.length = 0 := hx0
        have hxe : x = [] := List.eq_nil_of_length_eq_zero hx0
        have hput2 : (lkp p.n (nsOf x)).isSome = true → putL x p = (x, 10) := fun h => by rw [hxe] at h; simp [nsOf, lkp] at h
        have hput1 : lkp p.n (nsOf x) = none → putL x p = (x ++ [p], 0) := fun _ => by rw [hxe]; simp [putL, hc]
        simp [hx1]
        refine draw_g [0, 1, 2, 3, 4, 5, 6, 7, 8, 9, 10, 11, 12, 13, 14, 15, 16, 17] 18 [(8, [0, 1, 2, 3, 4, 5, 6, 7])] (by kernel_rfl) (by kernel_rfl) (by kernel_rfl) ?_
        simp [hx1]
        refine draw_g [0, 1, 2, 3, 4, 5, 6, 7] 8 [] (by kernel_rfl) (by kernel_rfl) (by kernel_rfl) ?_
        simp [hx1]
        refine loopT_of Nat (fun k => k ≤ x.length ∧ lkp p.n (nsOf x) = lkp p.n (nsOf (x.drop k))) (fun k => ⟨[(0, .isl (rowQ x) x.length), (3, .at 3 v3 0), (48, .isl (rowQ x) x.length), (49, .v (.int .i64 x.length)), (50, .v (.int .i64 k))], [(3, v3, ⟨0, [i64c p.t, i64c p.b, u64c p.h, i64c p.n, .v (.string (bs p.s))]⟩)]⟩) (fun k => x.length - k) 0 (by simp) (by simp [hx1]) (by simp [i64c, u64c]) ?_
        rintro k ⟨hk, hI⟩
        by_cases g : k < x.length
        · have hat := rowQ_at g
          have hd := lkp_drop (n := p.n) g
          have e1 : IntKind.i64.wrap ((k : Int) + 1) = ((k + 1 : Nat) : Int) := by rw [i64_id (by omega) (by omega)]; rfl
          by_cases hn : x[k].n = p.n
          · rw [if_pos hn] at hd
            have hf := hput2 (by rw [hI, hd]; rfl)
            simp [g, hat, i64c, u64c, hn]
            intro v7
            rw [hf]
            refine ⟨⟨⟨rfl, rfl⟩, rfl⟩, ?_⟩
            rintro a b c (⟨rfl, -⟩ | ⟨rfl, -⟩) <;> decide
          · rw [if_neg hn] at hd
            simp [g, hat, i64c, u64c, hn]
            intro v7
            exact SLx.again (k + 1) ⟨by omega, by rw [hI, hd]⟩ (by omega) (by simp [e1]) (by simp)
        · have : k = x.length := by omega
          have hf := hput1 (by rw [hI, this, List.drop_length]; rfl)
          subst this
          simp [i64c, u64c]
          refine draw_g [1, 3, 4, 0, 2] 5 [(0, []), (2, [0, 1])] (by kernel_rfl) (by kernel_rfl) (by kernel_rfl) ?_
          simp
          have hall : AllC (List.take (x.length * 5) (rowQ x)) := allC_rowQ x
          have htk := rowQ_tk x
          refine ⟨hall, by omega, by omega, by omega, by omega, fun u => ?_⟩
          rw [hf]
          simp [htk, Pcs.cells, i64c, u64c]
          try exact hxe
      · have hx1 : 0 < x.length := by omega
        have hat0 := rowQ_at hx1
        simp only [Nat.zero_mul, List.drop_zero] at hat0
        have hat5 : List.take 5 (rowQ x) = [i64c x[0].t, i64c x[0].b, u64c x[0].h, i64c x[0].n, .v (.string (bs x[0].s))] := by rw [hat0]; rfl
        have hat1 : (rowQ x).head?.getD .any = i64c x[0].t := by rw [hat0]; rfl
        have hat6 : ¬ rowQ x = [] := by rw [hat0]; simp
        have hat7 : 5 ≤ x.length * 5 := by omega
        clear hat0
        have hcons : ∃ q l, x = q :: l := by
          cases x with
          | nil => simp at hx1
          | cons q l => exact ⟨q, l, rfl⟩
        have hx1' : (0 : Int) < x.length := by omega
        have hlk0 := hlk x[0]
        by_cases hl : likeP x[0] p = true
        · have hput2 : (lkp p.n (nsOf x)).isSome = true → putL x p = (x, 10) := fun h => by
            obtain ⟨q, l, rfl⟩ := hcons
            have hl2 : likeP q p = true := hl
            simp [putL, hc, hl2, h]
          have hput1 : lkp p.n (nsOf x) = none → putL x p = (x ++ [p], 0) := fun h => by
            obtain ⟨q, l, rfl⟩ := hcons
            have hl2 : likeP q p = true := hl
            simp [putL, hc, hl2, h]
          rw [hl] at hlk0
          refine draw_g [0, 1, 2, 3, 4, 5, 6, 7, 8, 9, 10, 11, 12, 13, 14, 15, 16, 17] 18 [(8, [0, 1, 2, 3, 4, 5, 6, 7])] (by kernel_rfl) (by kernel_rfl) (by kernel_rfl) ?_
          simp [hx1, hx1', hat5, hat1, hat6, hat7, i64c, u64c]
          refine callT_eq [] hlk0 ?_
          simp
          refine draw_g [0, 1, 2, 3, 4, 5, 6, 7] 8 [] (by kernel_rfl) (by kernel_rfl) (by kernel_rfl) ?_
          simp [hx1, hx1', hat5, hat1, hat6, hat7, i64c, u64c]
          refine callT_eq [] hlk0 ?_
          simp
          refine loopT_of Nat (fun k => k ≤ x.length ∧ lkp p.n (nsOf x) = lkp p.n (nsOf (x.drop k))) (fun k => ⟨[(0, .isl (rowQ x) x.length), (3, .at 3 v3 0), (48, .isl (rowQ x) x.length), (49, .v (.int .i64 x.length)), (50, .v (.int .i64 k))], [(3, v3, ⟨0, [i64c p.t, i64c p.b, u64c p.h, i64c p.n, .v (.string (bs p.s))]⟩)]⟩) (fun k => x.length - k) 0 (by simp) (by simp [hx1]) (by simp [i64c, u64c]) ?_
          rintro k ⟨hk, hI⟩
          by_cases g : k < x.length
          · have hat := rowQ_at g
            have hd := lkp_drop (n := p.n) g
            have e1 : IntKind.i64.wrap ((k : Int) + 1) = ((k + 1 : Nat) : Int) := by rw [i64_id (by omega) (by omega)]; rfl
            by_cases hn : x[k].n = p.n
            · rw [if_pos hn] at hd
              have hf := hput2 (by rw [hI, hd]; rfl)
              simp [g, hat, i64c, u64c, hn]
              intro v7
              rw [hf]
              refine ⟨⟨⟨rfl, rfl⟩, rfl⟩, ?_⟩
              rintro a b c (⟨rfl, -⟩ | ⟨rfl, -⟩) <;> decide
            · rw [if_neg hn] at hd
              simp [g, hat, i64c, u64c, hn]
              intro v7
              exact SLx.again (k + 1) ⟨by omega, by rw [hI, hd]⟩ (by omega) (by simp [e1]) (by simp)
          · have : k = x.length := by omega
            have hf := hput1 (by rw [hI, this, List.drop_length]; rfl)
            subst this
            simp [i64c, u64c]
            refine draw_g [1, 3, 4, 0, 2] 5 [(0, []), (2, [0, 1])] (by kernel_rfl) (by kernel_rfl) (by kernel_rfl) ?_
            simp
            have hall : AllC (List.take (x.length * 5) (rowQ x)) := allC_rowQ x
            have htk := rowQ_tk x
            refine ⟨hall, by omega, by omega, by omega, by omega, hf, ?_⟩
            rw [htk, htk]
        · have hl' : likeP x[0] p = false := by simpa using hl
          rw [hl'] at hlk0
          by_cases ht : p.t ≤ x[0].t
          · have hput : putL x p = (x, 11) := by
              obtain ⟨q, l, rfl⟩ := hcons
              have hl2 : likeP q p = false := hl'
              have ht2 : p.t ≤ q.t := ht
              simp [putL, hc, hl2, ht2]
            refine draw_g [0, 1, 2, 3, 4, 5, 6, 7, 8, 9, 10, 11, 12, 13, 14, 15, 16, 17] 18 [(8, [0, 1, 2, 3, 4, 5, 6, 7])] (by kernel_rfl) (by kernel_rfl) (by kernel_rfl) ?_
            simp [hx1, hx1', hat5, hat1, hat6, hat7, i64c, u64c]
            refine callT_eq [] hlk0 ?_
            simp [hat5, hat1, hat6, hat7, i64c, ht]
            rw [hput]
            refine ⟨hx1, ⟨⟨rfl, rfl⟩, rfl⟩, ?_⟩
            rintro a b c rfl - -
            decide
          · have hput : putL x p = ([p], 0) := by
              obtain ⟨q, l, rfl⟩ := hcons
              have hl2 : likeP q p = false := hl'
              have ht2 : ¬ p.t ≤ q.t := ht
              simp [putL, hc, hl2, ht2]
            refine draw_g [0, 1, 2, 3, 4, 5, 6, 7, 8, 9, 10, 11, 12, 13, 14, 15, 16, 17] 18 [(8, [0, 1, 2, 3, 4, 5, 6, 7])] (by kernel_rfl) (by kernel_rfl) (by kernel_rfl) ?_
            simp [hx1, hx1', hat5, hat1, hat6, hat7, i64c, u64c]
            refine callT_eq [] hlk0 ?_
            simp [hat5, hat1, hat6, hat7, i64c, ht]
            refine ⟨hx1, ?_⟩
            refine draw_g [0, 1, 2, 3, 4, 5, 6, 7] 8 [] (by kernel_rfl) (by kernel_rfl) (by kernel_rfl) ?_
            simp [hx1, hx1', hat5, hat1, hat6, hat7, i64c, u64c]
            refine callT_eq [] hlk0 ?_
            simp
            exact hput
    · simp [hc]
      refine callT_eq [] hchk ?_
      simp [putL, hc, i64c]
      try (rintro _ _ _ rfl rfl rfl; simp)
  · rcases hh with ⟨rfl, rfl⟩ | ⟨e, u, rfl, rfl⟩ | ⟨e, u, rfl, rfl⟩
    · exact VLx.done ⟨rfl, rfl⟩
    · rw [e]
      refine VLx.frz 47 rfl (VLx.done ?_)
      simp [rowQ, Pcs.cells, i64c, u64c]
    · rw [e]
      refine VLx.frz 61 rfl (VLx.done ?_)
      have htk : List.take ((x.length + 1) * 5) (rowQ x ++ p.cells) = rowQ x ++ p.cells := List.take_of_length_le (by simp [Pcs.cells]; omega)
      simp only [Pcs.cells] at htk
      simp [rowQ_snoc, Pcs.cells, htk]
      simp [i64c]
end Go.Proofs.Ytijgbinkdjekoaa.TL
