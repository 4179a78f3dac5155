/- A snapshot put together: chunk.Gather. -/
import Derived.Test.YtijgbinkdjekoaaUSpl
namespace Go.Proofs.Ytijgbinkdjekoaa.TL
open Go
set_option linter.unusedVariables false
set_option linter.unusedSimpArgs false

structure Gth where
  t : Int
  b : Int
  h : Nat
  g : Bool
  m : List (Int × List UInt8)
def strT (s : List UInt8) : TV := .v (.string (bs s))
@[simp] theorem ren_strT (τ : Nat → Option Nat) (s : List UInt8) : renT τ (strT s) = strT s := rfl
@[simp] theorem ok_strT (m : Nat → Prop) (s : List UInt8) : okT m (strT s) := trivial
@[simp] theorem mv_strT (b v b' v' : Nat) (s : List UInt8) : mvT b v b' v' (strT s) = strT s := rfl
@[simp] theorem renL_strs (τ : Nat → Option Nat) (M : List (Int × List UInt8)) : renL τ (mapC .i64 strT M) = mapC .i64 strT M := renL_mapC (fun _ => rfl) M
@[simp] theorem okL_strs (m : Nat → Prop) (M : List (Int × List UInt8)) : okL m (mapC .i64 strT M) := okL_mapC (fun s => ok_strT m s) M
@[simp] theorem mapC_nil : mapC .i64 strT [] = [] := rfl
def Gth.cells (G : Gth) (j w : Nat) : List TV := [i64c G.t, i64c G.b, u64c G.h, .v (.bool G.g), .mp j w]
def gatH (i j v w : Nat) (G : Gth) : Heap := [(i, v, ⟨0, G.cells j w⟩), (j, w, ⟨0, mapC .i64 strT G.m⟩)]
def Gth.like (G : Gth) (p : Pcs) : Bool := decide (p.t = G.t) && (decide (p.b = G.b) && decide (p.h = G.h))
def Gth.put (G : Gth) (p : Pcs) : Gth × Int :=
  if p.chk ≠ 0 then (G, p.chk)
  else if G.g = true ∧ G.like p = false then
    if p.t ≤ G.t then (G, 11) else (⟨p.t, p.b, p.h, true, [(p.n, p.s)]⟩, 0)
  else if G.g = false then (⟨p.t, p.b, p.h, true, [(p.n, p.s)]⟩, 0)
  else if (lkp p.n G.m).isSome = true then (G, 10) else (⟨G.t, G.b, G.h, G.g, ins p.n p.s G.m⟩, 0)

theorem PcHead_T (p : Pcs) : callT Try.prog 36 [.agg p.cells] ⟨[], []⟩ (fun x h => x = .agg [i64c p.t, i64c p.b, u64c p.h] ∧ h = []) := by
  refine callT_of_body [0, 1, 2] [] Try.func36 rfl (by decide) (by kernel_rfl) rfl ?_
  simp [Pcs.cells, i64c, u64c]
theorem GNew_T : callT Try.prog 9 [] ⟨[], []⟩ (fun x h => ∃ w v, x = .at 3 v 0 ∧ h = [(1, w, ⟨0, []⟩), (3, v, ⟨0, [i64c 0, i64c 0, u64c 0, .v (.bool false), .mp 1 w]⟩)]) := by
  refine callT_of_body [0] [1, 3] Try.func9 rfl (by decide) (by kernel_rfl) rfl ?_
  simp [i64c, u64c]
theorem GHave_T (v w : Nat) (G : Gth) (hb : G.b ≤ 4611686018427387904) : callT Try.prog 13 [.at 1000 v 0] ⟨[], gatH 1000 1001 v w G⟩ (fun x h => x = .tup (if G.g = true then [i64c G.m.length, i64c (pcN G.b)] else [i64c 0, i64c 0]) ∧ h = gatH 1000 1001 v w G) := by
  refine callT_of_body [0, 2, 3, 8] [1000, 1001] Try.func13 rfl (by decide) (by kernel_rfl) rfl ?_
  cases hg : G.g
  · simp [gatH, Gth.cells, i64c, u64c, hg]
  · simp [gatH, Gth.cells, i64c, u64c, hg]
    have hc := PcCount_T G.b hb
    simp [i64c] at hc
    refine draw_g [0, 1, 2, 3, 4, 5, 6, 7, 8, 9] 10 [] (by kernel_rfl) (by kernel_rfl) (by kernel_rfl) ?_
    simp
    refine callT_eq [] hc ?_
    simp
set_option maxHeartbeats 4000000 in
set_option maxRecDepth 100000 in
theorem GPut_T (v w : Nat) (G : Gth) (p : Pcs) (hp : p.s.length ≤ 4611686018427387904) : callT Try.prog 11 [.at 1000 v 0, .agg p.cells] ⟨[], gatH 1000 1001 v w G⟩ (fun x h => ∃ w', x = i64c (G.put p).2 ∧ h = gatH 1000 1001 v w' (G.put p).1) := by
  refine callT.mono (K := fun x h => (x = i64c (G.put p).2 ∧ h = gatH 1000 1001 v w (G.put p).1) ∨ ∃ w', x = i64c (G.put p).2 ∧ h = [(1000, v, ⟨0, (G.put p).1.cells 57 w'⟩), (1001, w, ⟨0, mapC .i64 strT G.m⟩), (57, w', ⟨0, mapC .i64 strT (G.put p).1.m⟩)]) ?_ fun x h hh => ?_
  · refine callT_of_body [0, 1, 3, 4, 5, 7, 11, 13, 37, 74] [1000, 1001, 57] Try.func11 rfl (by decide) (by kernel_rfl) rfl ?_
    have hchk := PcChk_T p hp
    have hhd := PcHead_T p
    simp [Pcs.cells, i64c, u64c] at hchk hhd
    simp [gatH, Gth.cells, Pcs.cells, i64c, u64c]
    intro v3
    refine callT_eq [] hchk ?_
    have hput : ∀ (x : TV), x = strT p.s → mput .i64 p.n x [] = mapC .i64 strT [(p.n, p.s)] := fun x hx => by subst hx; rfl
    have hput2 : mput .i64 p.n (.v (.string (bs p.s))) (mapC .i64 strT G.m) = mapC .i64 strT (ins p.n p.s G.m) := mput_mapC (g := strT) (x := .v (.string (bs p.s))) p.n p.s rfl G.m
    by_cases hc : p.chk = 0
    · cases hg : G.g
      · simp [hc]
        refine draw_g [0, 1, 2, 3, 4, 5, 7, 8, 9, 10, 6, 11, 12, 13, 14, 15, 16, 17, 18, 19, 20] 21 [(6, [0, 1, 2, 3, 4, 5])] (by kernel_rfl) (by kernel_rfl) (by kernel_rfl) ?_
        simp
        refine draw_g [0, 1, 2, 3, 4, 5, 6, 8, 9, 10, 11, 7] 12 [(7, [0, 1, 2, 3, 4, 5, 6])] (by kernel_rfl) (by kernel_rfl) (by kernel_rfl) ?_
        simp
        refine callT_eq [] hhd ?_
        simp
        intro w2
        refine draw_g [0, 1, 2, 3, 4, 5, 6, 7, 8, 9, 10] 11 [] (by kernel_rfl) (by kernel_rfl) (by kernel_rfl) ?_
        simp [mget]
        refine draw_g [0, 1, 2, 3, 4, 5, 6, 7] 8 [] (by kernel_rfl) (by kernel_rfl) (by kernel_rfl) ?_
        simp [mput, hput, Gth.put, hc, hg]
        rfl
      · by_cases hl : G.like p = true
        · have hl' := hl
          simp only [Gth.like, Bool.and_eq_true, decide_eq_true_eq] at hl'
          obtain ⟨e1, e2, e3⟩ := hl'
          simp [hc]
          refine draw_g [0, 1, 2, 3, 4, 5, 7, 8, 9, 10, 6, 11, 12, 13, 14, 15, 16, 17, 18, 19, 20] 21 [(6, [0, 1, 2, 3, 4, 5])] (by kernel_rfl) (by kernel_rfl) (by kernel_rfl) ?_
          simp
          refine callT_eq [] hhd ?_
          simp [e1, e2, e3]
          refine draw_g [0, 1, 2, 3, 4, 5, 6, 8, 9, 10, 11, 7] 12 [(7, [0, 1, 2, 3, 4, 5, 6])] (by kernel_rfl) (by kernel_rfl) (by kernel_rfl) ?_
          simp
          refine callT_eq [] hhd ?_
          simp [e1, e2, e3]
          refine draw_g [0, 1, 2, 3, 4, 5, 6, 7, 8, 9, 10] 11 [] (by kernel_rfl) (by kernel_rfl) (by kernel_rfl) ?_
          simp
          cases hk : lkp p.n G.m with
          | none =>
            simp [hk]
            refine draw_g [0, 1, 2, 3, 4, 5, 6, 7] 8 [] (by kernel_rfl) (by kernel_rfl) (by kernel_rfl) ?_
            simp [hput2]
            simp [Gth.put, hc, hg, hl, hk]
          | some y => simp [hk, Gth.put, hc, hg, hl]
        · have hl' : G.like p = false := by simpa using hl
          have hcs : ¬ p.t = G.t ∨ (p.t = G.t ∧ ¬ p.b = G.b) ∨ (p.t = G.t ∧ p.b = G.b ∧ ¬ (p.h : Int) = G.h) := by
            simp only [Gth.like, Bool.and_eq_false_imp, decide_eq_true_eq, decide_eq_false_iff_not] at hl'
            by_cases h1 : p.t = G.t
            · by_cases h2 : p.b = G.b
              · exact .inr (.inr ⟨h1, h2, fun hh => hl' h1 h2 (by omega)⟩)
              · exact .inr (.inl ⟨h1, h2⟩)
            · exact .inl h1
          by_cases hle : p.t ≤ G.t
          · rcases hcs with h1 | ⟨h1, h2⟩ | ⟨h1, h2, h3⟩
            · simp [hc]
              refine draw_g [0, 1, 2, 3, 4, 5, 7, 8, 9, 10, 6, 11, 12, 13, 14, 15, 16, 17, 18, 19, 20] 21 [(6, [0, 1, 2, 3, 4, 5])] (by kernel_rfl) (by kernel_rfl) (by kernel_rfl) ?_
              simp
              refine callT_eq [] hhd ?_
              simp [h1, hle]
              simp [Gth.put, hc, hg, hl', hle]
            · simp [hc]
              refine draw_g [0, 1, 2, 3, 4, 5, 7, 8, 9, 10, 6, 11, 12, 13, 14, 15, 16, 17, 18, 19, 20] 21 [(6, [0, 1, 2, 3, 4, 5])] (by kernel_rfl) (by kernel_rfl) (by kernel_rfl) ?_
              simp
              refine callT_eq [] hhd ?_
              simp [h1, h2, hle]
              simp [Gth.put, hc, hg, hl', h1]
            · simp [hc]
              refine draw_g [0, 1, 2, 3, 4, 5, 7, 8, 9, 10, 6, 11, 12, 13, 14, 15, 16, 17, 18, 19, 20] 21 [(6, [0, 1, 2, 3, 4, 5])] (by kernel_rfl) (by kernel_rfl) (by kernel_rfl) ?_
              simp
              refine callT_eq [] hhd ?_
              simp [h1, h2, h3, hle]
              simp [Gth.put, hc, hg, hl', h1]
          · rcases hcs with h1 | ⟨h1, h2⟩ | ⟨h1, h2, h3⟩
            · simp [hc]
              refine draw_g [0, 1, 2, 3, 4, 5, 7, 8, 9, 10, 6, 11, 12, 13, 14, 15, 16, 17, 18, 19, 20] 21 [(6, [0, 1, 2, 3, 4, 5])] (by kernel_rfl) (by kernel_rfl) (by kernel_rfl) ?_
              simp
              refine callT_eq [] hhd ?_
              simp [h1, hle]
              refine draw_g [0, 1, 2, 3, 4, 5, 6, 8, 9, 10, 11, 7] 12 [(7, [0, 1, 2, 3, 4, 5, 6])] (by kernel_rfl) (by kernel_rfl) (by kernel_rfl) ?_
              simp
              refine callT_eq [] hhd ?_
              simp [h1]
              refine callT_eq [] hhd ?_
              simp
              intro w2
              refine draw_g [0, 1, 2, 3, 4, 5, 6, 7, 8, 9, 10] 11 [] (by kernel_rfl) (by kernel_rfl) (by kernel_rfl) ?_
              simp [mget]
              refine draw_g [0, 1, 2, 3, 4, 5, 6, 7] 8 [] (by kernel_rfl) (by kernel_rfl) (by kernel_rfl) ?_
              simp [mput, hput, Gth.put, hc, hg, hl', hle]
              rfl
            · omega
            · omega
    · simp [hc, Gth.put]
  · rcases hh with ⟨rfl, rfl⟩ | ⟨w', rfl, rfl⟩
    · exact VLx.done ⟨w, rfl, rfl⟩
    · refine VLx.sub [(1000, v, ⟨0, (G.put p).1.cells 57 w'⟩), (57, w', ⟨0, mapC .i64 strT (G.put p).1.m⟩)] (by simp) ?_
      refine VLx.mv 57 1001 rfl rfl fun w2 => VLx.done ⟨w2, ?_, ?_⟩
      · simp [mvT, i64c]
      · rw [show (mvH 57 w' 1001 w2 [(1000, v, ⟨0, (G.put p).1.cells 57 w'⟩), (57, w', ⟨0, mapC .i64 strT (G.put p).1.m⟩)]) = [(1000, v, ⟨0, mvL 57 w' 1001 w2 ((G.put p).1.cells 57 w')⟩), (1001, w2, ⟨0, mvL 57 w' 1001 w2 (mapC .i64 strT (G.put p).1.m)⟩)] from rfl, mvL_mapC (g := strT) (fun _ => rfl)]
        simp [gatH, Gth.cells, mvL, mvT, i64c, u64c]

/-- The texts, one behind the other. -/
def catL (m : List (Int × List UInt8)) : Nat → List UInt8
  | 0 => []
  | n + 1 => catL m n ++ (lkp n m).getD []
theorem catL_len {m : List (Int × List UInt8)} (h : ∀ p ∈ m, p.2.length ≤ 100) : ∀ n, (catL m n).length ≤ n * 100
  | 0 => by simp [catL]
  | n + 1 => by
    have ih := catL_len h n
    simp only [catL, List.length_append]
    cases hk : lkp (n : Int) m with
    | none => simp; omega
    | some s =>
      have := h _ (lkp_mem hk)
      simp at this ⊢
      omega
def Gth.whole (G : Gth) : List UInt8 × Int × Int :=
  if G.g = false ∨ (G.m.length : Int) < pcN G.b ∨ pcN G.b = 0 then ([], 0, 15)
  else if sumOf (catL G.m (pcN G.b).toNat) ≠ G.h then ([], 0, 5) else (catL G.m (pcN G.b).toNat, G.t, 0)
theorem getD_strT (o : Option (List UInt8)) : (Option.map strT o).getD (.v (.string (bs []))) = .v (.string (bs (o.getD []))) := by cases o <;> rfl
theorem pcN_rng {b : Int} (h : b ≤ 65536) : 0 ≤ pcN b ∧ pcN b ≤ 656 := by unfold pcN; omega
set_option maxHeartbeats 4000000 in
set_option maxRecDepth 100000 in
theorem GWhole_T (v w : Nat) (G : Gth) (hb : G.b ≤ 65536) (hm : ∀ p ∈ G.m, p.2.length ≤ 100) (hh : G.h < 2 ^ 64) : callT Try.prog 12 [.at 1000 v 0] ⟨[], gatH 1000 1001 v w G⟩ (fun x h => x = .tup [.v (.string (bs G.whole.1)), i64c G.whole.2.1, i64c G.whole.2.2] ∧ h = gatH 1000 1001 v w G) := by
  refine callT_of_body [0, 2, 3, 4, 5, 6, 7, 8, 20, 21, 22, 23, 42] [1000, 1001] Try.func12 rfl (by decide) (by kernel_rfl) rfl ?_
  have hhv := GHave_T v w G (by omega)
  have hn := pcN_rng hb
  have hw : G.whole = G.whole := rfl
  conv at hw => rhs; unfold Gth.whole
  generalize G.whole = W at hw ⊢
  cases hg : G.g
  · simp [hg] at hw
    subst hw
    simp [gatH, Gth.cells, i64c, u64c, hg] at hhv ⊢
    refine callT_eq [(1000, 1000), (1001, 1001)] hhv ?_
    simp [bs_nil]
  · simp [hg] at hw
    simp [gatH, Gth.cells, i64c, u64c, hg] at hhv ⊢
    refine callT_eq [(1000, 1000), (1001, 1001)] hhv ?_
    by_cases hc : (G.m.length : Int) < pcN G.b ∨ pcN G.b = 0
    · rw [if_pos hc] at hw
      subst hw
      rcases hc with hc | hc
      · simp [hc, bs_nil]
      · simp [hc, bs_nil]
    · rw [if_neg hc] at hw
      have hc1 : ¬ (G.m.length : Int) < pcN G.b := fun h => hc (.inl h)
      have hc2 : ¬ pcN G.b = 0 := fun h => hc (.inr h)
      obtain ⟨n, hn1, hn2⟩ : ∃ n : Nat, pcN G.b = n ∧ n ≤ 656 := ⟨(pcN G.b).toNat, by omega, by omega⟩
      rw [hn1] at hw hc1 hc2 hn ⊢
      simp only [Int.toNat_natCast] at hw
      have hc3 : (n : Int) ≤ G.m.length := by omega
      have hc4 : n ≤ G.m.length := by omega
      have hc5 : ¬ n = 0 := by omega
      simp [hc1, hc2, hc3, hc4, hc5]
      refine loopT_of Nat (fun k => k ≤ n) (fun k => ⟨[(0, .at 1000 v 0), (21, i64c n), (22, i64c k), (7, .v (.string (bs (catL G.m k))))], [(1000, v, ⟨0, [i64c G.t, i64c G.b, u64c G.h, .v (.bool true), .mp 1001 w]⟩), (1001, w, ⟨0, mapC .i64 strT G.m⟩)]⟩) (fun k => n - k) 0 (by simp) (by simp [i64c, catL, bs_nil]) (by simp [i64c, u64c]) ?_
      intro k hk
      have hcl := catL_len hm
      by_cases g : k < n
      · have g' : (k : Int) < n := by omega
        have hw1 : IntKind.i64.wrap ((k : Int) + 1) = ((k + 1 : Nat) : Int) := by rw [i64_id (by omega) (by omega)]; rfl
        have hcl1 := hcl (k + 1)
        simp only [catL, List.length_append] at hcl1
        simp [i64c, u64c, g, g', getD_strT]
        refine ⟨by omega, ?_⟩
        exact SLx.again (k + 1) (by omega) (by omega) (by simp [hw1, catL]) (by simp)
      · have : k = n := by omega
        subst this
        have hck := hcl k
        have hs := SumOf_T (catL G.m k) (by omega)
        simp [u64c] at hs
        simp [i64c, u64c]
        refine draw_g [0, 1, 3, 4, 5, 6, 7, 2] 8 [(2, [0, 1])] (by kernel_rfl) (by kernel_rfl) (by kernel_rfl) ?_
        simp
        refine callT_eq [] hs ?_
        by_cases he : sumOf (catL G.m k) = G.h
        · rw [if_pos he] at hw
          subst hw
          simp [he]
          refine draw_g [0, 1, 2, 3, 4, 5, 6] 7 [] (by kernel_rfl) (by kernel_rfl) (by kernel_rfl) ?_
          simp
        · rw [if_neg he] at hw
          subst hw
          have he' : ¬ (sumOf (catL G.m k) : Int) = G.h := by omega
          simp [he', bs_nil]
def missL (m : List (Int × List UInt8)) (most : Int) : Nat → List Int
  | 0 => []
  | k + 1 => if ((missL m most k).length : Int) < most ∧ lkp (k : Int) m = none then missL m most k ++ [(k : Int)] else missL m most k
theorem missL_len (m : List (Int × List UInt8)) (most : Int) : ∀ k, (missL m most k).length ≤ k
  | 0 => Nat.le_refl _
  | k + 1 => by
    have := missL_len m most k
    simp only [missL]
    split
    · simp; omega
    · omega
theorem missL_stop {m : List (Int × List UInt8)} {most : Int} {k : Nat} (h : ¬ ((missL m most k).length : Int) < most) : ∀ j, missL m most (k + j) = missL m most k
  | 0 => rfl
  | j + 1 => by
    rw [← Nat.add_assoc, missL, missL_stop h j, if_neg (fun hh => h hh.1)]
def Gth.n (G : Gth) : Nat := if G.g = true then (pcN G.b).toNat else 0
set_option maxHeartbeats 4000000 in
set_option maxRecDepth 100000 in
theorem GMiss_T (v w : Nat) (G : Gth) (most : Int) (hb : G.b ≤ 65536) : callT Try.prog 20 [.at 1000 v 0, i64c most] ⟨[], gatH 1000 1001 v w G⟩ (fun x h => x = .isl ((missL G.m most G.n).map i64c) (missL G.m most G.n).length ∧ h = gatH 1000 1001 v w G) := by
  refine callT.mono (K := fun x h => ∃ u, x = .sl 1002 u 0 (missL G.m most G.n).length ∧ h = gatH 1000 1001 v w G ++ [(1002, u, ⟨1, (missL G.m most G.n).map i64c⟩)]) ?_ fun x h hh => ?_
  · refine callT_of_body [0, 1, 4, 5, 7, 8, 10, 24, 37] [1000, 1001, 1002] Try.func20 rfl (by decide) (by kernel_rfl) rfl ?_
    have hhv := GHave_T v w G (by omega)
    have hr := pcN_rng hb
    have hN : G.n ≤ 656 := by unfold Gth.n; split <;> omega
    have hx : (if G.g = true then [i64c G.m.length, i64c (pcN G.b)] else [i64c 0, i64c 0]) = [i64c (if G.g = true then G.m.length else 0 : Nat), i64c G.n] := by
      unfold Gth.n
      cases G.g
      · simp
      · simp [i64c]; omega
    rw [hx] at hhv
    generalize G.n = N at hhv hN ⊢
    generalize (if G.g = true then G.m.length else 0) = z at hhv
    simp [gatH, Gth.cells, i64c, u64c] at hhv ⊢
    refine callT_eq [(1000, 1000), (1001, 1001)] hhv ?_
    simp
    refine ⟨Nat × Nat, fun x => x.1 ≤ N, fun x => ⟨[(0, .at 1000 v 0), (1, i64c most), (5, .sl 1002 x.2 0 (missL G.m most x.1).length), (7, i64c N), (8, i64c x.1)], gatH 1000 1001 v w G ++ [(1002, x.2, ⟨1, (missL G.m most x.1).map i64c⟩)]⟩, fun x => N - x.1, ?_, ?_⟩
    · refine SLx.nil 5 1002 1 (by decide) (by simp) fun u => SLx.fin _ ⟨(0, u), by simp, rfl⟩ ?_ ?_
      · simp [i64c, missL]
      · simp [i64c, u64c, setH, missL, gatH, Gth.cells]
    rintro ⟨k, u⟩ hk
    simp only at hk ⊢
    have hst := missL_stop (m := G.m) (most := most) (k := k)
    have hsu : missL G.m most (k + 1) = if ((missL G.m most k).length : Int) < most ∧ lkp (k : Int) G.m = none then missL G.m most k ++ [(k : Int)] else missL G.m most k := rfl
    have hfl := missL_len G.m most k
    generalize hF : missL G.m most k = F at hst hsu hfl ⊢
    by_cases g : k < N
    · have g' : (k : Int) < N := by omega
      by_cases gm : (F.length : Int) < most
      · have e1 : IntKind.i64.wrap ((k : Int) + 1) = ((k + 1 : Nat) : Int) := by rw [i64_id (by omega) (by omega)]; rfl
        simp [gatH, Gth.cells, i64c, u64c, g, g', gm]
        cases hk2 : lkp (k : Int) G.m with
        | none =>
          rw [if_pos ⟨gm, hk2⟩] at hsu
          simp [hk2]
          intro v40
          refine ⟨by omega, by omega, fun u2 => ?_⟩
          have htk : List.take F.length (List.map i64c F) = List.map i64c F := List.take_of_length_le (by simp)
          have hdr : List.drop (F.length + 1) (List.map i64c F) = [] := List.drop_of_length_le (by simp)
          exact SLx.again (k + 1, u2) (by simp only; omega) (by simp only; omega) (by simp [e1, hsu]) (by simp [hsu, htk, hdr, gatH, Gth.cells, i64c, u64c])
        | some y =>
          rw [if_neg (by rw [hk2]; simp)] at hsu
          simp [hk2]
          exact SLx.again (k + 1, u) (by simp only; omega) (by simp only; omega) (by simp [e1, hsu]) (by simp [hsu, gatH, Gth.cells, i64c, u64c])
      · have e0 := hst gm (N - k)
        rw [show k + (N - k) = N by omega] at e0
        simp [gatH, Gth.cells, i64c, u64c, g, g', gm]
        exact ⟨u, ⟨rfl, by rw [e0]⟩, rfl, by rw [e0]⟩
    · have : k = N := by omega
      subst this
      rw [hF]
      simp [gatH, Gth.cells, i64c, u64c]
  · obtain ⟨u, rfl, rfl⟩ := hh
    refine VLx.frz 1002 rfl (VLx.done ?_)
    simp [gatH]
end Go.Proofs.Ytijgbinkdjekoaa.TL
