/- The law's letters. -/
import Derived.Test.YtkggjmoghpmelaaULetA
import Derived.Test.YtkggjmoghpmelaaUSpl
import Derived.Test.YtkggjmoghpmelaaURecX
import Derived.Test.YtkggjmoghpmelaaURecO
import Derived.Test.YtkggjmoghpmelaaUTidy
namespace Go.Proofs.Ytkggjmoghpmelaa.TL
open Go
set_option linter.unusedVariables false
set_option linter.unusedSimpArgs false

theorem i64_and31 (n : Int) : Go.bits .and .i64 n 31 = n % 32 := by
  have := Int.emod_nonneg n (show (18446744073709551616 : Int) ≠ 0 by decide)
  show IntKind.i64.wrap ((BitVec.ofInt 64 n &&& BitVec.ofInt 64 31).toNat : Int) = _
  rw [BitVec.toNat_and, BitVec.toNat_ofInt, show (BitVec.ofInt 64 31).toNat = 2 ^ 5 - 1 from rfl, Nat.and_two_pow_sub_one_eq_mod, IntKind.wrap_i64]
  omega
theorem i64_and16777215 (n : Int) : Go.bits .and .i64 n 16777215 = n % 16777216 := by
  have := Int.emod_nonneg n (show (18446744073709551616 : Int) ≠ 0 by decide)
  show IntKind.i64.wrap ((BitVec.ofInt 64 n &&& BitVec.ofInt 64 16777215).toNat : Int) = _
  rw [BitVec.toNat_and, BitVec.toNat_ofInt, show (BitVec.ofInt 64 16777215).toNat = 2 ^ 24 - 1 from rfl, Nat.and_two_pow_sub_one_eq_mod, IntKind.wrap_i64]
  omega
/-- What letters are made of. -/
structure Mk where
  k : Int
  p : Int
  t : Int
  y : Bool
  q : Nat
  l : List Ord
  ps : List Int
  c : List Chg
  s : List UInt8
def Mk.cells (m : Mk) : List TV := [i64c m.k, i64c m.p, i64c m.t, .v (.bool m.y), u64c m.q, .isl (rowC m.l) m.l.length, .isl (m.ps.map i64c) m.ps.length, .isl (rowG m.c) m.c.length, .v (.string (bs m.s))]
def Mk.kd (m : Mk) : Int := m.k % 256 % 10
def Mk.txt (m : Mk) : List UInt8 := (m.s ++ [33]).take 300
def mkLet (m : Mk) : Let :=
  if m.kd = 0 then .give (m.t % 16777216) (tidy m.l)
  else if m.kd = 1 then .vote (m.p % 32) m.y
  else if m.kd = 2 then .leave
  else if m.kd = 3 then .hash (m.t % 16777216) m.q
  else if m.kd = 4 then .enter
  else if m.kd = 5 then .ready (m.t % 16777216)
  else if m.kd = 6 then .turn (fit (m.t % 16777216) ⟨setOf (m.ps.take 40), 0⟩ m.c [m.l])
  else if m.kd = 7 then .ask (m.p % 32)
  else if m.kd = 8 then .welc (m.p % 32)
  else .piece (pieceAt (m.t % 16777216) m.txt ((m.p % 32).toNat % ((m.txt.length + 99) / 100)))
structure Mk.ok (m : Mk) : Prop where
  q : m.q < 2 ^ 64
  c : m.c.length ≤ maxLen
  s : m.s.length ≤ 4611686018427387904
theorem mk_txt (m : Mk) : 1 ≤ m.txt.length ∧ m.txt.length ≤ 300 := by
  simp only [Mk.txt, List.length_take, List.length_append, List.length_singleton]
  omega
theorem mk_wf {m : Mk} (h : m.ok) : (mkLet m).wf := by
  have hq := h.q
  have ht : 0 ≤ m.t % 16777216 ∧ m.t % 16777216 ≤ 1099511627776 := by omega
  have hp : 0 ≤ m.p % 32 ∧ m.p % 32 ≤ 31 := by omega
  have hx := mk_txt m
  unfold mkLet
  split
  · exact ⟨ht, tidy_chk _, tidy_len8 _⟩
  split
  · exact hp
  split
  · trivial
  split
  · exact ⟨ht, hq⟩
  split
  · trivial
  split
  · exact ht
  split
  · exact fit_wf (setOf_lt _) ht
  split
  · exact hp
  split
  · exact hp
  · exact pieceAt_wf ht (by omega) (Nat.mod_lt _ (by omega))
theorem mk_kind (m : Mk) : ((mkLet m).kind : Int) = 1 + m.kd := by
  have : 0 ≤ m.kd ∧ m.kd ≤ 9 := by unfold Mk.kd; omega
  unfold mkLet
  split
  · simp only [Let.kind]; omega
  split
  · simp only [Let.kind]; omega
  split
  · simp only [Let.kind]; omega
  split
  · simp only [Let.kind]; omega
  split
  · simp only [Let.kind]; omega
  split
  · simp only [Let.kind]; omega
  split
  · simp only [Let.kind]; omega
  split
  · simp only [Let.kind]; omega
  split
  · simp only [Let.kind]; omega
  · simp only [Let.kind]; omega

theorem batchlen8 {l : List Ord} (h : ∀ o ∈ l, o.ok) (hl : l.length ≤ 8) : (batchB l).length ≤ 330 := by
  have h1 := nb_len10 (n := l.length) (by omega)
  have h2 := obs_len h
  simp only [batchB, List.length_append]
  omega
theorem rec_len2 {r : Rec} (h : r.wf) : r.bytes.length ≤ 2000000 := by
  have ho := h.rd.ok
  have e1 := chgB_len ho.c
  have e2 := plyB_len ho.l
  have e3 := nb_len10 (n := r.t.toNat) (by have := h.t; omega)
  have e4 := nb_len10 (n := r.c.length) (by have := h.cl; omega)
  have e5 := nb_len10 (n := r.pt.toNat) (by have := h.pt; omega)
  have e6 := nb_len10 (n := r.pd.toNat) (by have := h.pd; omega)
  have e7 := nb_len10 (n := r.l.length) (by have := h.ll; omega)
  have e8 := h.cl
  have e9 := h.ll
  simp only [Rec.bytes, List.length_append]
  omega
theorem pcs_len {p : Pcs} (h : p.wf) : p.bytes.length ≤ 200 := by
  obtain ⟨h1, h2, h3, h4, h5, h6, h7⟩ := h.rng
  have e1 := nb_len10 (n := p.t.toNat) (by omega)
  have e2 := nb_len10 (n := p.b.toNat) (by omega)
  have e3 := nb_len10 h.h
  have e4 := nb_len10 (n := p.n.toNat) (by omega)
  have e5 := nb_len10 (n := p.s.length) (by omega)
  simp only [Pcs.bytes, List.length_append]
  omega
set_option maxHeartbeats 16000000 in
set_option maxRecDepth 100000 in
theorem Make_T (m : Mk) (hm : m.ok) : callT Try.prog 12 [.agg m.cells] ⟨[], []⟩ (fun x h => x = .tup [(mkLet m).tv, .v (.string (bs (mkLet m).bytes))] ∧ h = []) := by
  refine callT_of_body [0, 1, 2, 3, 4, 5, 6, 7, 8, 9, 10, 11, 12, 27, 28, 29, 46, 60, 65, 80, 85, 94, 99, 122, 131, 148] [] Try.func12 rfl (by decide) (by kernel_rfl) rfl ?_
  have hkd : 0 ≤ m.kd ∧ m.kd ≤ 9 := by unfold Mk.kd; omega
  have hxt := mk_txt m
  have hmk : mkLet m = mkLet m := rfl
  conv at hmk => rhs; unfold mkLet
  have hx : m.txt = (m.s ++ [33]).take 300 := rfl
  obtain ⟨hq, hc, hs⟩ := hm
  have hkk : m.k % 256 % 10 = m.kd := rfl
  generalize m.kd = K at hkd hmk hkk
  generalize mkLet m = X at hmk ⊢
  generalize m.txt = x at hxt hmk hx
  obtain ⟨k, p, t, y, q, l, ps, c, s⟩ := m
  simp only at hq hc hs hmk hkk hx
  have ea := i64_and255 k
  have ep := i64_and31 p
  have et := i64_and16777215 t
  have er : (k % 256).tmod 10 = k % 256 % 10 := Int.tmod_eq_emod_of_nonneg (by omega)
  have hw : ∀ n : Int, 0 ≤ n → n ≤ 11 → IntKind.i64.wrap n = n := fun n h1 h2 => i64_id (by omega) (by omega)
  have hP : 0 ≤ p % 32 ∧ p % 32 ≤ 31 := by omega
  have hT : 0 ≤ t % 16777216 ∧ t % 16777216 ≤ 16777215 := by omega
  rw [hkk] at er
  generalize p % 32 = P at *
  generalize t % 16777216 = T at *
  have hKs : K = 0 ∨ K = 1 ∨ K = 2 ∨ K = 3 ∨ K = 4 ∨ K = 5 ∨ K = 6 ∨ K = 7 ∨ K = 8 ∨ K = 9 := by omega
  rcases hKs with rfl | rfl | rfl | rfl | rfl | rfl | rfl | rfl | rfl | rfl
  · have l0 := nb_len10 (n := 1) (by decide)
    simp only [Int.reduceEq, if_true, if_false] at hmk
    subst hmk
    cases y
    · simp [Mk.cells, i64c, u64c]
      intro v1
      refine draw_g [0, 1, 2, 3, 4, 5, 6] 7 [] (by kernel_rfl) (by kernel_rfl) (by kernel_rfl) ?_
      simp [ea, ep, et, er, hkk, hw]
      refine callT_eq [] (CountR_T 1 (by decide)) ?_
      simp
      have l1 := nb_len10 (n := T.toNat) (by omega)
      have l2 := batchlen8 (l := tidy l) (fun o ho => (tidy_chk _ o ho).2) (tidy_len8 _)
      refine callT_eq [] (Tidy_T l) ?_
      simp
      refine callT_eq [] (CountR_T T (by omega)) ?_
      simp [i64c]
      repeat refine ⟨by omega, ?_⟩
      refine callT_eq [] (Told9_T (tidy l) (by have := tidy_len8 l; omega)) ?_
      simp
      refine callT_eq [] (BTextR_T (tidy l) (fun o ho => (tidy_chk _ o ho).2) (by have := tidy_len8 l; omega)) ?_
      simp
      repeat refine ⟨by omega, ?_⟩
      simp [Let.bytes, Let.body, Let.kind, Let.tv, Let.ty, Let.fl, i64c, u64c]
      try omega
    · simp [Mk.cells, i64c, u64c]
      intro v1
      refine draw_g [0, 1, 2, 3, 4, 5, 6] 7 [] (by kernel_rfl) (by kernel_rfl) (by kernel_rfl) ?_
      simp [ea, ep, et, er, hkk, hw]
      refine callT_eq [] (CountR_T 1 (by decide)) ?_
      simp
      have l1 := nb_len10 (n := T.toNat) (by omega)
      have l2 := batchlen8 (l := tidy l) (fun o ho => (tidy_chk _ o ho).2) (tidy_len8 _)
      refine callT_eq [] (Tidy_T l) ?_
      simp
      refine callT_eq [] (CountR_T T (by omega)) ?_
      simp [i64c]
      repeat refine ⟨by omega, ?_⟩
      refine callT_eq [] (Told9_T (tidy l) (by have := tidy_len8 l; omega)) ?_
      simp
      refine callT_eq [] (BTextR_T (tidy l) (fun o ho => (tidy_chk _ o ho).2) (by have := tidy_len8 l; omega)) ?_
      simp
      repeat refine ⟨by omega, ?_⟩
      simp [Let.bytes, Let.body, Let.kind, Let.tv, Let.ty, Let.fl, i64c, u64c]
      try omega
  · have l0 := nb_len10 (n := 2) (by decide)
    simp only [Int.reduceEq, if_true, if_false] at hmk
    subst hmk
    cases y
    · simp [Mk.cells, i64c, u64c]
      intro v1
      refine draw_g [0, 1, 2, 3, 4, 5, 6] 7 [] (by kernel_rfl) (by kernel_rfl) (by kernel_rfl) ?_
      simp [ea, ep, et, er, hkk, hw]
      refine callT_eq [] (CountR_T 2 (by decide)) ?_
      simp
      have l1 := nb_len10 (n := P.toNat) (by omega)
      have l2 := nb_len10 (n := 0) (by decide)
      refine draw_g [0, 1, 2, 3, 4, 5, 6, 9, 7, 8, 10, 11, 12] 13 [(7, [6]), (10, [6, 7, 9])] (by kernel_rfl) (by kernel_rfl) (by kernel_rfl) ?_
      simp
      refine callT_eq [] (CountR_T P (by omega)) ?_
      simp [i64c]
      repeat refine ⟨by omega, ?_⟩
      refine callT_eq [] (CountR_T 0 (by omega)) ?_
      simp [i64c]
      repeat refine ⟨by omega, ?_⟩
      simp [Let.bytes, Let.body, Let.kind, Let.tv, Let.ty, Let.fl, i64c, u64c]
      try omega
    · simp [Mk.cells, i64c, u64c]
      intro v1
      refine draw_g [0, 1, 2, 3, 4, 5, 6] 7 [] (by kernel_rfl) (by kernel_rfl) (by kernel_rfl) ?_
      simp [ea, ep, et, er, hkk, hw]
      refine callT_eq [] (CountR_T 2 (by decide)) ?_
      simp
      have l1 := nb_len10 (n := P.toNat) (by omega)
      have l2 := nb_len10 (n := 1) (by decide)
      refine draw_g [0, 1, 2, 3, 4, 5, 6, 9, 7, 8, 10, 11, 12] 13 [(7, [6]), (10, [6, 7, 9])] (by kernel_rfl) (by kernel_rfl) (by kernel_rfl) ?_
      simp
      refine callT_eq [] (CountR_T P (by omega)) ?_
      simp [i64c]
      repeat refine ⟨by omega, ?_⟩
      refine callT_eq [] (CountR_T 1 (by omega)) ?_
      simp [i64c]
      repeat refine ⟨by omega, ?_⟩
      simp [Let.bytes, Let.body, Let.kind, Let.tv, Let.ty, Let.fl, i64c, u64c]
      try omega
  · have l0 := nb_len10 (n := 3) (by decide)
    simp only [Int.reduceEq, if_true, if_false] at hmk
    subst hmk
    cases y
    · simp [Mk.cells, i64c, u64c]
      intro v1
      refine draw_g [0, 1, 2, 3, 4, 5, 6] 7 [] (by kernel_rfl) (by kernel_rfl) (by kernel_rfl) ?_
      simp [ea, ep, et, er, hkk, hw]
      refine callT_eq [] (CountR_T 3 (by decide)) ?_
      simp
      simp [Let.bytes, Let.body, Let.kind, Let.tv, Let.ty, Let.fl, i64c, u64c]
      try omega
    · simp [Mk.cells, i64c, u64c]
      intro v1
      refine draw_g [0, 1, 2, 3, 4, 5, 6] 7 [] (by kernel_rfl) (by kernel_rfl) (by kernel_rfl) ?_
      simp [ea, ep, et, er, hkk, hw]
      refine callT_eq [] (CountR_T 3 (by decide)) ?_
      simp
      simp [Let.bytes, Let.body, Let.kind, Let.tv, Let.ty, Let.fl, i64c, u64c]
      try omega
  · have l0 := nb_len10 (n := 4) (by decide)
    simp only [Int.reduceEq, if_true, if_false] at hmk
    subst hmk
    cases y
    · simp [Mk.cells, i64c, u64c]
      intro v1
      refine draw_g [0, 1, 2, 3, 4, 5, 6] 7 [] (by kernel_rfl) (by kernel_rfl) (by kernel_rfl) ?_
      simp [ea, ep, et, er, hkk, hw]
      refine callT_eq [] (CountR_T 4 (by decide)) ?_
      simp
      have l1 := nb_len10 (n := T.toNat) (by omega)
      have l2 := nb_len10 (n := q) hq
      refine draw_g [0, 1, 2, 3, 4, 5, 6, 9, 10, 7, 8, 11, 12, 13] 14 [(7, [6]), (11, [6, 7, 9, 10])] (by kernel_rfl) (by kernel_rfl) (by kernel_rfl) ?_
      simp
      refine callT_eq [] (CountR_T T (by omega)) ?_
      simp [i64c]
      repeat refine ⟨by omega, ?_⟩
      refine callT_eq [] (NumR_T q hq) ?_
      simp [i64c, u64c]
      repeat refine ⟨by omega, ?_⟩
      simp [Let.bytes, Let.body, Let.kind, Let.tv, Let.ty, Let.fl, i64c, u64c]
      try omega
    · simp [Mk.cells, i64c, u64c]
      intro v1
      refine draw_g [0, 1, 2, 3, 4, 5, 6] 7 [] (by kernel_rfl) (by kernel_rfl) (by kernel_rfl) ?_
      simp [ea, ep, et, er, hkk, hw]
      refine callT_eq [] (CountR_T 4 (by decide)) ?_
      simp
      have l1 := nb_len10 (n := T.toNat) (by omega)
      have l2 := nb_len10 (n := q) hq
      refine draw_g [0, 1, 2, 3, 4, 5, 6, 9, 10, 7, 8, 11, 12, 13] 14 [(7, [6]), (11, [6, 7, 9, 10])] (by kernel_rfl) (by kernel_rfl) (by kernel_rfl) ?_
      simp
      refine callT_eq [] (CountR_T T (by omega)) ?_
      simp [i64c]
      repeat refine ⟨by omega, ?_⟩
      refine callT_eq [] (NumR_T q hq) ?_
      simp [i64c, u64c]
      repeat refine ⟨by omega, ?_⟩
      simp [Let.bytes, Let.body, Let.kind, Let.tv, Let.ty, Let.fl, i64c, u64c]
      try omega
  · have l0 := nb_len10 (n := 5) (by decide)
    simp only [Int.reduceEq, if_true, if_false] at hmk
    subst hmk
    cases y
    · simp [Mk.cells, i64c, u64c]
      intro v1
      refine draw_g [0, 1, 2, 3, 4, 5, 6] 7 [] (by kernel_rfl) (by kernel_rfl) (by kernel_rfl) ?_
      simp [ea, ep, et, er, hkk, hw]
      refine callT_eq [] (CountR_T 5 (by decide)) ?_
      simp
      simp [Let.bytes, Let.body, Let.kind, Let.tv, Let.ty, Let.fl, i64c, u64c]
      try omega
    · simp [Mk.cells, i64c, u64c]
      intro v1
      refine draw_g [0, 1, 2, 3, 4, 5, 6] 7 [] (by kernel_rfl) (by kernel_rfl) (by kernel_rfl) ?_
      simp [ea, ep, et, er, hkk, hw]
      refine callT_eq [] (CountR_T 5 (by decide)) ?_
      simp
      simp [Let.bytes, Let.body, Let.kind, Let.tv, Let.ty, Let.fl, i64c, u64c]
      try omega
  · have l0 := nb_len10 (n := 6) (by decide)
    simp only [Int.reduceEq, if_true, if_false] at hmk
    subst hmk
    cases y
    · simp [Mk.cells, i64c, u64c]
      intro v1
      refine draw_g [0, 1, 2, 3, 4, 5, 6] 7 [] (by kernel_rfl) (by kernel_rfl) (by kernel_rfl) ?_
      simp [ea, ep, et, er, hkk, hw]
      refine callT_eq [] (CountR_T 6 (by decide)) ?_
      simp
      have l1 := nb_len10 (n := T.toNat) (by omega)
      refine callT_eq [] (CountR_T T (by omega)) ?_
      simp [i64c]
      repeat refine ⟨by omega, ?_⟩
      simp [Let.bytes, Let.body, Let.kind, Let.tv, Let.ty, Let.fl, i64c, u64c]
      try omega
    · simp [Mk.cells, i64c, u64c]
      intro v1
      refine draw_g [0, 1, 2, 3, 4, 5, 6] 7 [] (by kernel_rfl) (by kernel_rfl) (by kernel_rfl) ?_
      simp [ea, ep, et, er, hkk, hw]
      refine callT_eq [] (CountR_T 6 (by decide)) ?_
      simp
      have l1 := nb_len10 (n := T.toNat) (by omega)
      refine callT_eq [] (CountR_T T (by omega)) ?_
      simp [i64c]
      repeat refine ⟨by omega, ?_⟩
      simp [Let.bytes, Let.body, Let.kind, Let.tv, Let.ty, Let.fl, i64c, u64c]
      try omega
  · have l0 := nb_len10 (n := 7) (by decide)
    simp only [Int.reduceEq, if_true, if_false] at hmk
    subst hmk
    cases y
    · have hpc : (40 < ps.length ∧ 40 ≤ ps.length) ∨ ¬ 40 < ps.length := by omega
      rcases hpc with hp | hp
      · have hp' : (40 : Int) < ps.length := by omega
        have hml : (ps.take 40).length = 40 := by simp; omega
        simp [Mk.cells, i64c, u64c]
        intro v1
        refine draw_g [0, 1, 2, 3, 4, 5, 6] 7 [] (by kernel_rfl) (by kernel_rfl) (by kernel_rfl) ?_
        simp [ea, ep, et, er, hkk, hw]
        refine callT_eq [] (CountR_T 7 (by decide)) ?_
        simp [hp', hp.1, hp.2]
        rw [← List.map_take]
        generalize ps.take 40 = m at hml ⊢
        repeat refine ⟨by omega, ?_⟩
        have hof : callT Try.prog 35 [.isl (m.map i64c) 40] ⟨[], []⟩ (fun x h => x = .agg (Ros.mk (setOf m) 0).cells ∧ h = []) := by rw [← hml]; exact ROf_T m (by omega)
        have hS := setOf_lt m
        generalize setOf m = S at hS hof ⊢
        have hf : callT Try.prog 34 [i64c T, .agg (Ros.mk S 0).cells, .isl (rowG c) c.length, .isl [.isl (rowC l) l.length] 1] ⟨[], []⟩ (fun x h => x = .agg (fit T ⟨S, 0⟩ c [l]).cells ∧ h = []) := by
          simpa [rowB] using Fit_T T ⟨S, 0⟩ c [l] hS (by simp) (by simp) hc
        have hfw := fit_wf (t := T) (was := ⟨S, 0⟩) (cs := c) (L := [l]) hS (by omega)
        generalize fit T ⟨S, 0⟩ c [l] = X at hf hfw ⊢
        have lx := rec_len2 hfw
        have htold := RcTold_T X (by have := hfw.cl; omega) (by have := hfw.ll; omega) (fun q hq => by have := (hfw.l q hq).l; omega)
        have htx := RcTextR_T X hfw.rd.ok
        refine drawT_cut (α := Nat) (fun _ => True) (fun x => ⟨[(7, .v (.string (bs (nb 7)))), (10, .at 10 x 0)], [(10, x, ⟨0, X.cells⟩)]⟩) ?_ ?_
        · refine draw_h (pl [0, 1, 2, 4, 5, 6, 7, 8] (.alt 3 (pl [] (.alt 9 (pl [10] .nil) 10 (pl [9] .nil))) 10 (pl [3, 9] .nil))) 11 [(3, [1, 2]), (9, [0, 1, 2, 3, 4, 5, 6, 7, 8]), (10, [])] (by kernel_rfl) (by kernel_rfl) (by kernel_rfl) (by kernel_rfl) ?_
          simp
          refine ⟨?_, ?_⟩
          · refine callT_eq [] hof ?_
            simp [Rec.cells, Ros.cells, u32v, i64c]
            refine ⟨?_, ?_⟩
            · refine callT_eq [] hf ?_
              simp [Rec.cells, Ros.cells, u32v, i64c]
              intro v10
              exact SLx.at v10 trivial (by simp) (by simp [Rec.cells, i64c])
            · intro v10
              refine callT_eq [] hf ?_
              simp [Rec.cells, Ros.cells, u32v, i64c]
              exact SLx.at v10 trivial (by simp) (by simp [Rec.cells, i64c])
          · intro v10
            refine callT_eq [] hof ?_
            simp [Rec.cells, Ros.cells, u32v, i64c]
            refine callT_eq [] hf ?_
            simp [Rec.cells, Ros.cells, u32v, i64c]
            exact SLx.at v10 trivial (by simp) (by simp [Rec.cells, i64c])
        rintro v10 -
        simp [Rec.cells, i64c]
        refine draw_g [0, 1, 2, 3, 4, 5, 6, 7, 8] 9 [(5, [4]), (6, [4, 5])] (by kernel_rfl) (by kernel_rfl) (by kernel_rfl) ?_
        simp
        refine callT_eq [] htold ?_
        simp [Rec.cells, i64c]
        refine callT_eq [] htx ?_
        simp [Let.bytes, Let.body, Let.kind, Let.tv, Let.ty, Let.fl, Rec.cells, i64c, u64c]
        try omega
      · have hp' : ¬ (40 : Int) < ps.length := by omega
        have hml : ps.take 40 = ps := List.take_of_length_le (by omega)
        simp [Mk.cells, i64c, u64c]
        intro v1
        refine draw_g [0, 1, 2, 3, 4, 5, 6] 7 [] (by kernel_rfl) (by kernel_rfl) (by kernel_rfl) ?_
        simp [ea, ep, et, er, hkk, hw]
        refine callT_eq [] (CountR_T 7 (by decide)) ?_
        simp [hp', hp, hml]
        generalize hmm : ps = m at *
        repeat refine ⟨by omega, ?_⟩
        have hof := ROf_T m (by omega)
        have hS := setOf_lt m
        generalize setOf m = S at hS hof ⊢
        have hf : callT Try.prog 34 [i64c T, .agg (Ros.mk S 0).cells, .isl (rowG c) c.length, .isl [.isl (rowC l) l.length] 1] ⟨[], []⟩ (fun x h => x = .agg (fit T ⟨S, 0⟩ c [l]).cells ∧ h = []) := by
          simpa [rowB] using Fit_T T ⟨S, 0⟩ c [l] hS (by simp) (by simp) hc
        have hfw := fit_wf (t := T) (was := ⟨S, 0⟩) (cs := c) (L := [l]) hS (by omega)
        generalize fit T ⟨S, 0⟩ c [l] = X at hf hfw ⊢
        have lx := rec_len2 hfw
        have htold := RcTold_T X (by have := hfw.cl; omega) (by have := hfw.ll; omega) (fun q hq => by have := (hfw.l q hq).l; omega)
        have htx := RcTextR_T X hfw.rd.ok
        refine drawT_cut (α := Nat) (fun _ => True) (fun x => ⟨[(7, .v (.string (bs (nb 7)))), (10, .at 10 x 0)], [(10, x, ⟨0, X.cells⟩)]⟩) ?_ ?_
        · refine draw_h (pl [0, 1, 2, 4, 5, 6, 7, 8] (.alt 3 (pl [] (.alt 9 (pl [10] .nil) 10 (pl [9] .nil))) 10 (pl [3, 9] .nil))) 11 [(3, [1, 2]), (9, [0, 1, 2, 3, 4, 5, 6, 7, 8]), (10, [])] (by kernel_rfl) (by kernel_rfl) (by kernel_rfl) (by kernel_rfl) ?_
          simp
          refine ⟨?_, ?_⟩
          · refine callT_eq [] hof ?_
            simp [Rec.cells, Ros.cells, u32v, i64c]
            refine ⟨?_, ?_⟩
            · refine callT_eq [] hf ?_
              simp [Rec.cells, Ros.cells, u32v, i64c]
              intro v10
              exact SLx.at v10 trivial (by simp) (by simp [Rec.cells, i64c])
            · intro v10
              refine callT_eq [] hf ?_
              simp [Rec.cells, Ros.cells, u32v, i64c]
              exact SLx.at v10 trivial (by simp) (by simp [Rec.cells, i64c])
          · intro v10
            refine callT_eq [] hof ?_
            simp [Rec.cells, Ros.cells, u32v, i64c]
            refine callT_eq [] hf ?_
            simp [Rec.cells, Ros.cells, u32v, i64c]
            exact SLx.at v10 trivial (by simp) (by simp [Rec.cells, i64c])
        rintro v10 -
        simp [Rec.cells, i64c]
        refine draw_g [0, 1, 2, 3, 4, 5, 6, 7, 8] 9 [(5, [4]), (6, [4, 5])] (by kernel_rfl) (by kernel_rfl) (by kernel_rfl) ?_
        simp
        refine callT_eq [] htold ?_
        simp [Rec.cells, i64c]
        refine callT_eq [] htx ?_
        simp [Let.bytes, Let.body, Let.kind, Let.tv, Let.ty, Let.fl, Rec.cells, i64c, u64c]
        try omega
    · have hpc : (40 < ps.length ∧ 40 ≤ ps.length) ∨ ¬ 40 < ps.length := by omega
      rcases hpc with hp | hp
      · have hp' : (40 : Int) < ps.length := by omega
        have hml : (ps.take 40).length = 40 := by simp; omega
        simp [Mk.cells, i64c, u64c]
        intro v1
        refine draw_g [0, 1, 2, 3, 4, 5, 6] 7 [] (by kernel_rfl) (by kernel_rfl) (by kernel_rfl) ?_
        simp [ea, ep, et, er, hkk, hw]
        refine callT_eq [] (CountR_T 7 (by decide)) ?_
        simp [hp', hp.1, hp.2]
        rw [← List.map_take]
        generalize ps.take 40 = m at hml ⊢
        repeat refine ⟨by omega, ?_⟩
        have hof : callT Try.prog 35 [.isl (m.map i64c) 40] ⟨[], []⟩ (fun x h => x = .agg (Ros.mk (setOf m) 0).cells ∧ h = []) := by rw [← hml]; exact ROf_T m (by omega)
        have hS := setOf_lt m
        generalize setOf m = S at hS hof ⊢
        have hf : callT Try.prog 34 [i64c T, .agg (Ros.mk S 0).cells, .isl (rowG c) c.length, .isl [.isl (rowC l) l.length] 1] ⟨[], []⟩ (fun x h => x = .agg (fit T ⟨S, 0⟩ c [l]).cells ∧ h = []) := by
          simpa [rowB] using Fit_T T ⟨S, 0⟩ c [l] hS (by simp) (by simp) hc
        have hfw := fit_wf (t := T) (was := ⟨S, 0⟩) (cs := c) (L := [l]) hS (by omega)
        generalize fit T ⟨S, 0⟩ c [l] = X at hf hfw ⊢
        have lx := rec_len2 hfw
        have htold := RcTold_T X (by have := hfw.cl; omega) (by have := hfw.ll; omega) (fun q hq => by have := (hfw.l q hq).l; omega)
        have htx := RcTextR_T X hfw.rd.ok
        refine drawT_cut (α := Nat) (fun _ => True) (fun x => ⟨[(7, .v (.string (bs (nb 7)))), (10, .at 10 x 0)], [(10, x, ⟨0, X.cells⟩)]⟩) ?_ ?_
        · refine draw_h (pl [0, 1, 2, 4, 5, 6, 7, 8] (.alt 3 (pl [] (.alt 9 (pl [10] .nil) 10 (pl [9] .nil))) 10 (pl [3, 9] .nil))) 11 [(3, [1, 2]), (9, [0, 1, 2, 3, 4, 5, 6, 7, 8]), (10, [])] (by kernel_rfl) (by kernel_rfl) (by kernel_rfl) (by kernel_rfl) ?_
          simp
          refine ⟨?_, ?_⟩
          · refine callT_eq [] hof ?_
            simp [Rec.cells, Ros.cells, u32v, i64c]
            refine ⟨?_, ?_⟩
            · refine callT_eq [] hf ?_
              simp [Rec.cells, Ros.cells, u32v, i64c]
              intro v10
              exact SLx.at v10 trivial (by simp) (by simp [Rec.cells, i64c])
            · intro v10
              refine callT_eq [] hf ?_
              simp [Rec.cells, Ros.cells, u32v, i64c]
              exact SLx.at v10 trivial (by simp) (by simp [Rec.cells, i64c])
          · intro v10
            refine callT_eq [] hof ?_
            simp [Rec.cells, Ros.cells, u32v, i64c]
            refine callT_eq [] hf ?_
            simp [Rec.cells, Ros.cells, u32v, i64c]
            exact SLx.at v10 trivial (by simp) (by simp [Rec.cells, i64c])
        rintro v10 -
        simp [Rec.cells, i64c]
        refine draw_g [0, 1, 2, 3, 4, 5, 6, 7, 8] 9 [(5, [4]), (6, [4, 5])] (by kernel_rfl) (by kernel_rfl) (by kernel_rfl) ?_
        simp
        refine callT_eq [] htold ?_
        simp [Rec.cells, i64c]
        refine callT_eq [] htx ?_
        simp [Let.bytes, Let.body, Let.kind, Let.tv, Let.ty, Let.fl, Rec.cells, i64c, u64c]
        try omega
      · have hp' : ¬ (40 : Int) < ps.length := by omega
        have hml : ps.take 40 = ps := List.take_of_length_le (by omega)
        simp [Mk.cells, i64c, u64c]
        intro v1
        refine draw_g [0, 1, 2, 3, 4, 5, 6] 7 [] (by kernel_rfl) (by kernel_rfl) (by kernel_rfl) ?_
        simp [ea, ep, et, er, hkk, hw]
        refine callT_eq [] (CountR_T 7 (by decide)) ?_
        simp [hp', hp, hml]
        generalize hmm : ps = m at *
        repeat refine ⟨by omega, ?_⟩
        have hof := ROf_T m (by omega)
        have hS := setOf_lt m
        generalize setOf m = S at hS hof ⊢
        have hf : callT Try.prog 34 [i64c T, .agg (Ros.mk S 0).cells, .isl (rowG c) c.length, .isl [.isl (rowC l) l.length] 1] ⟨[], []⟩ (fun x h => x = .agg (fit T ⟨S, 0⟩ c [l]).cells ∧ h = []) := by
          simpa [rowB] using Fit_T T ⟨S, 0⟩ c [l] hS (by simp) (by simp) hc
        have hfw := fit_wf (t := T) (was := ⟨S, 0⟩) (cs := c) (L := [l]) hS (by omega)
        generalize fit T ⟨S, 0⟩ c [l] = X at hf hfw ⊢
        have lx := rec_len2 hfw
        have htold := RcTold_T X (by have := hfw.cl; omega) (by have := hfw.ll; omega) (fun q hq => by have := (hfw.l q hq).l; omega)
        have htx := RcTextR_T X hfw.rd.ok
        refine drawT_cut (α := Nat) (fun _ => True) (fun x => ⟨[(7, .v (.string (bs (nb 7)))), (10, .at 10 x 0)], [(10, x, ⟨0, X.cells⟩)]⟩) ?_ ?_
        · refine draw_h (pl [0, 1, 2, 4, 5, 6, 7, 8] (.alt 3 (pl [] (.alt 9 (pl [10] .nil) 10 (pl [9] .nil))) 10 (pl [3, 9] .nil))) 11 [(3, [1, 2]), (9, [0, 1, 2, 3, 4, 5, 6, 7, 8]), (10, [])] (by kernel_rfl) (by kernel_rfl) (by kernel_rfl) (by kernel_rfl) ?_
          simp
          refine ⟨?_, ?_⟩
          · refine callT_eq [] hof ?_
            simp [Rec.cells, Ros.cells, u32v, i64c]
            refine ⟨?_, ?_⟩
            · refine callT_eq [] hf ?_
              simp [Rec.cells, Ros.cells, u32v, i64c]
              intro v10
              exact SLx.at v10 trivial (by simp) (by simp [Rec.cells, i64c])
            · intro v10
              refine callT_eq [] hf ?_
              simp [Rec.cells, Ros.cells, u32v, i64c]
              exact SLx.at v10 trivial (by simp) (by simp [Rec.cells, i64c])
          · intro v10
            refine callT_eq [] hof ?_
            simp [Rec.cells, Ros.cells, u32v, i64c]
            refine callT_eq [] hf ?_
            simp [Rec.cells, Ros.cells, u32v, i64c]
            exact SLx.at v10 trivial (by simp) (by simp [Rec.cells, i64c])
        rintro v10 -
        simp [Rec.cells, i64c]
        refine draw_g [0, 1, 2, 3, 4, 5, 6, 7, 8] 9 [(5, [4]), (6, [4, 5])] (by kernel_rfl) (by kernel_rfl) (by kernel_rfl) ?_
        simp
        refine callT_eq [] htold ?_
        simp [Rec.cells, i64c]
        refine callT_eq [] htx ?_
        simp [Let.bytes, Let.body, Let.kind, Let.tv, Let.ty, Let.fl, Rec.cells, i64c, u64c]
        try omega
  · have l0 := nb_len10 (n := 8) (by decide)
    simp only [Int.reduceEq, if_true, if_false] at hmk
    subst hmk
    cases y
    · simp [Mk.cells, i64c, u64c]
      intro v1
      refine draw_g [0, 1, 2, 3, 4, 5, 6] 7 [] (by kernel_rfl) (by kernel_rfl) (by kernel_rfl) ?_
      simp [ea, ep, et, er, hkk, hw]
      refine callT_eq [] (CountR_T 8 (by decide)) ?_
      simp
      have l1 := nb_len10 (n := P.toNat) (by omega)
      refine callT_eq [] (CountR_T P (by omega)) ?_
      simp [i64c]
      repeat refine ⟨by omega, ?_⟩
      simp [Let.bytes, Let.body, Let.kind, Let.tv, Let.ty, Let.fl, i64c, u64c]
      try omega
    · simp [Mk.cells, i64c, u64c]
      intro v1
      refine draw_g [0, 1, 2, 3, 4, 5, 6] 7 [] (by kernel_rfl) (by kernel_rfl) (by kernel_rfl) ?_
      simp [ea, ep, et, er, hkk, hw]
      refine callT_eq [] (CountR_T 8 (by decide)) ?_
      simp
      have l1 := nb_len10 (n := P.toNat) (by omega)
      refine callT_eq [] (CountR_T P (by omega)) ?_
      simp [i64c]
      repeat refine ⟨by omega, ?_⟩
      simp [Let.bytes, Let.body, Let.kind, Let.tv, Let.ty, Let.fl, i64c, u64c]
      try omega
  · have l0 := nb_len10 (n := 9) (by decide)
    simp only [Int.reduceEq, if_true, if_false] at hmk
    subst hmk
    cases y
    · simp [Mk.cells, i64c, u64c]
      intro v1
      refine draw_g [0, 1, 2, 3, 4, 5, 6] 7 [] (by kernel_rfl) (by kernel_rfl) (by kernel_rfl) ?_
      simp [ea, ep, et, er, hkk, hw]
      refine callT_eq [] (CountR_T 9 (by decide)) ?_
      simp
      have l1 := nb_len10 (n := P.toNat) (by omega)
      refine callT_eq [] (CountR_T P (by omega)) ?_
      simp [i64c]
      repeat refine ⟨by omega, ?_⟩
      simp [Let.bytes, Let.body, Let.kind, Let.tv, Let.ty, Let.fl, i64c, u64c]
      try omega
    · simp [Mk.cells, i64c, u64c]
      intro v1
      refine draw_g [0, 1, 2, 3, 4, 5, 6] 7 [] (by kernel_rfl) (by kernel_rfl) (by kernel_rfl) ?_
      simp [ea, ep, et, er, hkk, hw]
      refine callT_eq [] (CountR_T 9 (by decide)) ?_
      simp
      have l1 := nb_len10 (n := P.toNat) (by omega)
      refine callT_eq [] (CountR_T P (by omega)) ?_
      simp [i64c]
      repeat refine ⟨by omega, ?_⟩
      simp [Let.bytes, Let.body, Let.kind, Let.tv, Let.ty, Let.fl, i64c, u64c]
      try omega
  · have l0 := nb_len10 (n := 10) (by decide)
    simp only [Int.reduceEq, if_true, if_false] at hmk
    subst hmk
    cases y
    · simp [Mk.cells, i64c, u64c]
      intro v1
      refine draw_g [0, 1, 2, 3, 4, 5, 6] 7 [] (by kernel_rfl) (by kernel_rfl) (by kernel_rfl) ?_
      simp [ea, ep, et, er, hkk, hw]
      refine callT_eq [] (CountR_T 10 (by decide)) ?_
      simp
      refine ⟨by omega, ?_⟩
      refine callT_eq [] (Cut_T (s ++ [33]) 300 (by decide)) ?_
      simp
      rw [← hx]
      have hsp := Split_T T x (by omega)
      have hN : (split T x).length = (x.length + 99) / 100 := by simp [split]
      have hget : ∀ (i : Nat) (h : i < (split T x).length), (split T x)[i] = pieceAt T x i := fun i h => pieces_get h
      have hwf : ∀ i, i < (split T x).length → (pieceAt T x i).wf := fun i h => pieceAt_wf (by omega) (by omega) (by omega)
      rw [← hN]
      generalize split T x = F at hsp hN hget hwf ⊢
      refine callT_eq [] hsp ?_
      have n0 : ¬ F.length = 0 := by omega
      have n0' : ¬ (F.length : Int) = 0 := by omega
      have em : P.tmod (F.length : Int) = P % F.length := Int.tmod_eq_emod_of_nonneg (by omega)
      have hj : (P.toNat % F.length : Nat) < F.length := Nat.mod_lt _ (by omega)
      have hje : P % (F.length : Int) = ((P.toNat % F.length : Nat) : Int) := by first | rw [Int.natCast_emod, show ((P.toNat : Nat) : Int) = P by omega] | rw [Int.ofNat_emod, show ((P.toNat : Nat) : Int) = P by omega]
      have hat := rowQ_at hj
      rw [hget _ hj] at hat
      have hpw := hwf _ hj
      generalize P.toNat % F.length = j at hj hje hat hpw ⊢
      generalize pieceAt T x j = r at hat hpw ⊢
      have hjw : IntKind.i64.wrap (j : Int) = j := i64_id (by omega) (by omega)
      have lr := pcs_len hpw
      simp [n0, n0', em, hje, hjw, hj, hat, i64c, u64c]
      intro v12
      refine draw_g [0, 1, 2, 3, 4, 5, 6, 7] 8 [(5, [4])] (by kernel_rfl) (by kernel_rfl) (by kernel_rfl) ?_
      simp
      refine callT_eq [] (PcTextR_T r hpw.ok) ?_
      simp [Let.bytes, Let.body, Let.kind, Let.tv, Let.ty, Let.fl, Pcs.cells, i64c, u64c]
      try omega
    · simp [Mk.cells, i64c, u64c]
      intro v1
      refine draw_g [0, 1, 2, 3, 4, 5, 6] 7 [] (by kernel_rfl) (by kernel_rfl) (by kernel_rfl) ?_
      simp [ea, ep, et, er, hkk, hw]
      refine callT_eq [] (CountR_T 10 (by decide)) ?_
      simp
      refine ⟨by omega, ?_⟩
      refine callT_eq [] (Cut_T (s ++ [33]) 300 (by decide)) ?_
      simp
      rw [← hx]
      have hsp := Split_T T x (by omega)
      have hN : (split T x).length = (x.length + 99) / 100 := by simp [split]
      have hget : ∀ (i : Nat) (h : i < (split T x).length), (split T x)[i] = pieceAt T x i := fun i h => pieces_get h
      have hwf : ∀ i, i < (split T x).length → (pieceAt T x i).wf := fun i h => pieceAt_wf (by omega) (by omega) (by omega)
      rw [← hN]
      generalize split T x = F at hsp hN hget hwf ⊢
      refine callT_eq [] hsp ?_
      have n0 : ¬ F.length = 0 := by omega
      have n0' : ¬ (F.length : Int) = 0 := by omega
      have em : P.tmod (F.length : Int) = P % F.length := Int.tmod_eq_emod_of_nonneg (by omega)
      have hj : (P.toNat % F.length : Nat) < F.length := Nat.mod_lt _ (by omega)
      have hje : P % (F.length : Int) = ((P.toNat % F.length : Nat) : Int) := by first | rw [Int.natCast_emod, show ((P.toNat : Nat) : Int) = P by omega] | rw [Int.ofNat_emod, show ((P.toNat : Nat) : Int) = P by omega]
      have hat := rowQ_at hj
      rw [hget _ hj] at hat
      have hpw := hwf _ hj
      generalize P.toNat % F.length = j at hj hje hat hpw ⊢
      generalize pieceAt T x j = r at hat hpw ⊢
      have hjw : IntKind.i64.wrap (j : Int) = j := i64_id (by omega) (by omega)
      have lr := pcs_len hpw
      simp [n0, n0', em, hje, hjw, hj, hat, i64c, u64c]
      intro v12
      refine draw_g [0, 1, 2, 3, 4, 5, 6, 7] 8 [(5, [4])] (by kernel_rfl) (by kernel_rfl) (by kernel_rfl) ?_
      simp
      refine callT_eq [] (PcTextR_T r hpw.ok) ?_
      simp [Let.bytes, Let.body, Let.kind, Let.tv, Let.ty, Let.fl, Pcs.cells, i64c, u64c]
      try omega
end Go.Proofs.Ytkggjmoghpmelaa.TL
