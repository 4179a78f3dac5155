/- The machine's parts: stacks, frames, the heap, the dice. -/
import Derived.Test.YtnkdkajllmopaaaGreatUUnit
import Derived.Test.YtnkdkajllmopaaaGreatTD
/- The machine's parts: a frame that is made, what is taken from a stack. -/
/- A world's blocks; what the host does. -/
namespace Go.Proofs.YtnkdkajllmopaaaGreat.TL
open Go
set_option linter.unusedVariables false
set_option linter.unusedSimpArgs false

abbrev stkH (vs vk : Nat) (s : List Int) : Heap := [(2010, vs, ⟨0, [.sl 2011 vk 0 s.length]⟩), (2011, vk, ⟨1, s.map i64v⟩)]
def pushL (s l : List Int) : List Int := if s.length + l.length ≤ 64 then s ++ l else s
def popL (s : List Int) : List Int × Int := (s.dropLast, s.getLast?.getD 0)

@[simp] theorem i64s_CloL (l : List Int) : CloL (l.map i64v) := by induction l with | nil => simp | cons a l ih => simp [i64v, ih]
@[simp] theorem i64s_AllC (l : List Int) : AllC (l.map i64v) := by induction l with | nil => simp | cons a l ih => simp [i64v, ih]

@[simp] theorem i64s_okL (m : Nat → Prop) (l : List Int) : okL m (l.map i64v) := by induction l with | nil => simp [okL] | cons a l ih => simp [okL, okT, i64v] at ih ⊢; exact ih
@[simp] theorem i64s_renL (τ : Nat → Option Nat) (l : List Int) : renL τ (l.map i64v) = l.map i64v := by induction l with | nil => simp [renL] | cons a l ih => simp [renL, renT, i64v] at ih ⊢; exact ih

set_option maxRecDepth 100000 in
theorem Push_T (vs vk : Nat) (s l : List Int) (hs : s.length ≤ 64) (hl : l.length ≤ 64) : callT Tryz.prog 112 [.at 2010 vs 0, .isl (l.map i64v) l.length] ⟨[], stkH vs vk s⟩ (fun r h => ∃ vk', r = .v (.bool (decide (s.length + l.length ≤ 64))) ∧ h = stkH vs vk' (pushL s l)) := by
  refine callT_of_body [0, 1, 4, 13] [2010, 2011] Tryz.func112 rfl (by decide) (by kernel_rfl) rfl ?_
  have e1 : IntKind.i64.wrap ((s.length : Int) + l.length) = (s.length : Int) + l.length := i64_id (by omega) (by omega)
  have e2 : List.take l.length (l.map i64v) = l.map i64v := List.take_of_length_le (by simp)
  have e3 : List.take s.length (s.map i64v) = s.map i64v := List.take_of_length_le (by simp)
  by_cases h1 : s.length + l.length ≤ 64
  · have h1' : ¬ (64 : Int) < (s.length : Int) + l.length := by omega
    simp [e1, e2, e3, h1, h1', pushL]
    omega
  · have h1' : (64 : Int) < (s.length : Int) + l.length := by omega
    simp [e1, e2, e3, h1, h1', pushL]
    try omega

set_option maxRecDepth 100000 in
theorem Pop_0 (vs vk : Nat) (s : List Int) (hs : s.length ≤ 64) : callT Tryz.prog 113 [.at 2010 vs 0] ⟨[], stkH vs vk s⟩ (fun r h => r = i64v (popL s).2 ∧ h = [(2010, vs, ⟨0, [.sl 2011 vk 0 (popL s).1.length]⟩), (2011, vk, ⟨1, s.map i64v⟩)]) := by
  refine callT_of_body [0, 2, 3, 9] [2010, 2011] Tryz.func113 rfl (by decide) (by kernel_rfl) rfl ?_
  rcases List.eq_nil_or_concat s with rfl | ⟨t, x, rfl⟩
  · simp [popL, i64v]
  · have ht : t.length < 64 := by simp at hs; omega
    have e0 : IntKind.i64.wrap (t.length : Int) = (t.length : Int) := i64_id (by omega) (by omega)
    have eg : (List.map i64v t ++ [i64v x])[t.length]? = some (i64v x) := by rw [List.getElem?_append_right (by simp)]; simp
    have ep : popL (t ++ [x]) = (t, x) := by simp [popL]
    have ep' : popL (t.concat x) = (t, x) := by simp [popL]
    have hz : ¬ (t.length : Int) + 1 = 0 := by omega
    have h1 : (t.length : Int) < t.length + 1 := by omega
    simp [ep, ep', e0, hz]
    refine draw_g [0, 1, 2, 3, 4, 5, 6, 7, 8, 9] 10 [] (by kernel_rfl) (by kernel_rfl) (by kernel_rfl) ?_
    simp [e0, hz, eg, h1]
    refine draw_g [0, 1, 2, 3, 4, 5, 6, 7, 8, 9, 10, 11] 12 [] (by kernel_rfl) (by kernel_rfl) (by kernel_rfl) ?_
    simp [e0]
theorem Pop_T (vs vk : Nat) (s : List Int) (hs : s.length ≤ 64) : callT Tryz.prog 113 [.at 2010 vs 0] ⟨[], stkH vs vk s⟩ (fun r h => r = i64v (popL s).2 ∧ h = stkH vs vk (popL s).1) := by
  refine callT.mono (Pop_0 vs vk s hs) fun r h hh => ?_
  obtain ⟨rfl, rfl⟩ := hh
  refine VLx.trim 2011 (popL s).1.length rfl (VLx.done ⟨rfl, ?_⟩)
  simp [popL, setH, ← List.map_take, List.dropLast_eq_take]

abbrev heapH (v : Nat) (c : List Int) : Heap := [(2005, v, ⟨0, c.map i64v⟩)]
def cellOk (n : Int) : Bool := decide (0 ≤ n) && decide (n < 64)
def getC (c : List Int) (n : Int) : Int := if cellOk n then c[n.toNat]?.getD 0 else 0
def putC (c : List Int) (n x : Int) : List Int := if cellOk n then c.set n.toNat x else c

set_option maxRecDepth 100000 in
theorem Get_T (v : Nat) (c : List Int) (n : Int) (hc : c.length = 64) : callT Tryz.prog 126 [.at 2005 v 0, i64v n] ⟨[], heapH v c⟩ (fun r h => r = .tup [i64v (getC c n), .v (.bool (cellOk n))] ∧ h = heapH v c) := by
  refine callT_of_body [0, 1, 4, 5, 11] [2005] Tryz.func126 rfl (by decide) (by kernel_rfl) rfl ?_
  by_cases h0 : n < 0
  · have hk : cellOk n = false := by simp [cellOk]; omega
    simp [i64v, h0, getC, hk]
  · by_cases h1 : 64 ≤ n
    · have hk : cellOk n = false := by simp [cellOk]; omega
      simp [i64v, h0, h1, getC, hk]
    · have hk : cellOk n = true := by simp [cellOk]; omega
      have hl : n.toNat < c.length := by omega
      simp [i64v, h0, h1, getC, hk, hl]
      omega

set_option maxRecDepth 100000 in
theorem Put_T (v : Nat) (c : List Int) (n x : Int) (hc : c.length = 64) : callT Tryz.prog 127 [.at 2005 v 0, i64v n, i64v x] ⟨[], heapH v c⟩ (fun r h => r = .v (.bool (cellOk n)) ∧ h = heapH v (putC c n x)) := by
  refine callT_of_body [0, 1, 2, 6, 12] [2005] Tryz.func127 rfl (by decide) (by kernel_rfl) rfl ?_
  by_cases h0 : n < 0
  · have hk : cellOk n = false := by simp [cellOk]; omega
    simp [i64v, h0, putC, hk]
  · by_cases h1 : 64 ≤ n
    · have hk : cellOk n = false := by simp [cellOk]; omega
      simp [i64v, h0, h1, putC, hk]
    · have hk : cellOk n = true := by simp [cellOk]; omega
      have hl : n.toNat < c.length := by omega
      simp [i64v, h0, h1, putC, hk, hl]
      refine ⟨by omega, by omega, ?_⟩
      rw [List.set_eq_take_append_cons_drop, if_pos (by simpa using hl)]

set_option maxRecDepth 100000 in
theorem HostArgs_T (n : Int) : callT Tryz.prog 109 [i64v n] ⟨[], []⟩ (fun r h => r = i64v (if n < 0 ∨ 7 ≤ n then -1 else ([3, 1, 2, 3, 0, 1, 0] : List Int)[n.toNat]?.getD 0) ∧ h = []) := by
  refine callT_of_body [0, 2, 3, 10] [] Tryz.func109 rfl (by decide) (by kernel_rfl) rfl ?_
  by_cases h0 : n < 0
  · simp [i64v, h0]
  · by_cases h1 : 7 ≤ n
    · simp [i64v, h0, h1]
    · have : n = 0 ∨ n = 1 ∨ n = 2 ∨ n = 3 ∨ n = 4 ∨ n = 5 ∨ n = 6 := by omega
      rcases this with rfl | rfl | rfl | rfl | rfl | rfl | rfl <;> simp [i64v]
def tru (b : Bool) : Int := if b then 1 else 0
set_option maxRecDepth 100000 in
theorem Truth_T (b : Bool) : callT Tryz.prog 114 [.v (.bool b)] ⟨[], []⟩ (fun r h => r = i64v (tru b) ∧ h = []) := by
  refine callT_of_body [0, 2, 3] [] Tryz.func114 rfl (by decide) (by kernel_rfl) rfl ?_
  cases b <;> simp [i64v, tru]

structure Fr where
  fn : Nat
  at' : Nat
  stk : List Int
  loc : List Int
abbrev frH (vf vs vk vl : Nat) (f : Fr) : Heap := [(2009, vf, ⟨0, [.at 2010 vs 0, i64v f.fn, i64v f.at', .sl 2012 vl 0 f.loc.length]⟩)] ++ stkH vs vk f.stk ++ [(2012, vl, ⟨1, f.loc.map i64v⟩)]
def locOk (l : List Int) (n : Int) : Bool := decide (0 ≤ n) && decide (n < l.length)
def getLoc (l : List Int) (n : Int) : Int := if locOk l n then l[n.toNat]?.getD 0 else 0
def setLoc (l : List Int) (n x : Int) : List Int := if locOk l n then l.set n.toNat x else l

set_option maxRecDepth 100000 in
theorem Local_T (vf vs vk vl : Nat) (f : Fr) (n : Int) (hl : f.loc.length ≤ 16) : callT Tryz.prog 115 [.at 2009 vf 0, i64v n] ⟨[], frH vf vs vk vl f⟩ (fun r h => r = i64v (getLoc f.loc n) ∧ h = frH vf vs vk vl f) := by
  refine callT_of_body [0, 1, 4, 15] [2009, 2010, 2011, 2012] Tryz.func115 rfl (by decide) (by kernel_rfl) rfl ?_
  by_cases h0 : n < 0
  · have hk : locOk f.loc n = false := by simp [locOk]; omega
    simp [i64v, h0, getLoc, hk]
  · by_cases h1 : (f.loc.length : Int) ≤ n
    · have hk : locOk f.loc n = false := by simp [locOk]; omega
      simp [i64v, h0, h1, getLoc, hk]
    · have hk : locOk f.loc n = true := by simp [locOk]; omega
      have hl : n.toNat < f.loc.length := by omega
      simp [i64v, h0, h1, getLoc, hk, hl]
      omega

set_option maxRecDepth 100000 in
theorem SetLocal_T (vf vs vk vl : Nat) (f : Fr) (n x : Int) (hl : f.loc.length ≤ 16) : callT Tryz.prog 116 [.at 2009 vf 0, i64v n, i64v x] ⟨[], frH vf vs vk vl f⟩ (fun r h => r = .v (.bool (locOk f.loc n)) ∧ h = frH vf vs vk vl ⟨f.fn, f.at', f.stk, setLoc f.loc n x⟩) := by
  refine callT_of_body [0, 1, 2, 6, 17] [2009, 2010, 2011, 2012] Tryz.func116 rfl (by decide) (by kernel_rfl) rfl ?_
  by_cases h0 : n < 0
  · have hk : locOk f.loc n = false := by simp [locOk]; omega
    simp [i64v, h0, setLoc, hk]
  · by_cases h1 : (f.loc.length : Int) ≤ n
    · have hk : locOk f.loc n = false := by simp [locOk]; omega
      simp [i64v, h0, h1, setLoc, hk]
    · have hk : locOk f.loc n = true := by simp [locOk]; omega
      have hl : n.toNat < f.loc.length := by omega
      simp [i64v, h0, h1, setLoc, hk, hl]
      refine ⟨by omega, by omega, ?_⟩
      rw [List.set_eq_take_append_cons_drop, if_pos (by simpa using hl)]

/-- To the right by so many bits. -/
def shrU (a : Int) (k : Nat) : Int := a.fdiv (2 ^ min k IntKind.u64.bits)
def mixU (x : Int) (k : Nat) : Int := bits .xor .u64 x (shrU x k)
/-- The dice: where it is then, the number. -/
def diceNext (d : Int) : Int × Int :=
  (IntKind.u64.wrap (d + 11400714819323198485), mixU (IntKind.u64.wrap (mixU (IntKind.u64.wrap (mixU (IntKind.u64.wrap (d + 11400714819323198485)) 30 * 13787848793156543929)) 27 * 10723151780598845931)) 31)
set_option maxRecDepth 100000 in
theorem DNext_T (v : Nat) (d : Int) : callT Tryz.prog 123 [.at 2006 v 0] ⟨[], [(2006, v, ⟨0, [.v (.int .u64 d)]⟩)]⟩ (fun r h => r = .v (.int .u64 (diceNext d).2) ∧ h = [(2006, v, ⟨0, [.v (.int .u64 (diceNext d).1)]⟩)]) := by
  refine callT_of_body [0, 2, 3] [2006] Tryz.func123 rfl (by decide) (by kernel_rfl) rfl ?_
  simp
  exact ⟨rfl, rfl⟩
def mulMid (a b : Int) : Int := IntKind.u64.wrap (IntKind.u64.wrap (shrU a 32 * bits .and .u64 b 4294967295) + shrU (IntKind.u64.wrap (bits .and .u64 a 4294967295 * bits .and .u64 b 4294967295)) 32)
/-- The upper half of a product, and the lower one. -/
def mulHi (a b : Int) : Int :=
  IntKind.u64.wrap (IntKind.u64.wrap (IntKind.u64.wrap (shrU a 32 * shrU b 32) + shrU (mulMid a b) 32) + shrU (IntKind.u64.wrap (bits .and .u64 (mulMid a b) 4294967295 + IntKind.u64.wrap (bits .and .u64 a 4294967295 * shrU b 32))) 32)
def mulLo (a b : Int) : Int := IntKind.u64.wrap (a * b)
set_option maxRecDepth 100000 in
theorem Mul64_T (a b : Int) : callT Tryz.prog 122 [.v (.int .u64 a), .v (.int .u64 b)] ⟨[], []⟩ (fun r h => r = .tup [.v (.int .u64 (mulHi a b)), .v (.int .u64 (mulLo a b))] ∧ h = []) := by
  refine callT_of_body [0, 1, 4, 5, 6, 7, 8, 9, 10, 11, 12, 13] [] Tryz.func122 rfl (by decide) (by kernel_rfl) rfl ?_
  simp
  exact ⟨rfl, rfl⟩

abbrev diceH (v : Nat) (d : Int) : Heap := [(2006, v, ⟨0, [.v (.int .u64 d)]⟩)]
/-- Below n: where the dice is then, the number. -/
def below (d n : Int) : Int × Int := if n < 1 then (d, 0) else ((diceNext d).1, IntKind.i64.wrap (mulHi (diceNext d).2 (IntKind.u64.wrap n)))
set_option maxRecDepth 100000 in
theorem Below_T (v : Nat) (d n : Int) : callT Tryz.prog 117 [.at 2006 v 0, i64v n] ⟨[], diceH v d⟩ (fun r h => r = i64v (below d n).2 ∧ h = diceH v (below d n).1) := by
  refine callT_of_body [0, 1, 4, 5, 8] [2006] Tryz.func117 rfl (by decide) (by kernel_rfl) rfl ?_
  by_cases h0 : n < 1
  · simp [i64v, h0, below]
  · simp [i64v, h0, below]
    refine callT_eq [(2006, 2006)] (DNext_T v d) ?_
    simp
    refine callT_eq [] (Mul64_T (diceNext d).2 (IntKind.u64.wrap n)) ?_
    simp

/-- What an op of two values gives; none: it can't be done. -/
def two (op a b : Int) : Int × Bool :=
  if op = 5 then (IntKind.i64.wrap (a + b), true) else if op = 6 then (IntKind.i64.wrap (a - b), true) else if op = 7 then (IntKind.i64.wrap (a * b), true)
  else if op = 10 then (tru (decide (a = b)), true) else if op = 11 then (tru (decide (a < b)), true)
  else if b = 0 then (0, false) else if op = 8 then (IntKind.i64.wrap (a.tdiv b), true) else (a.tmod b, true)
set_option maxRecDepth 100000 in
theorem Two_T (op a b : Int) : callT Tryz.prog 119 [.v (.int .u8 op), i64v a, i64v b] ⟨[], []⟩ (fun r h => r = .tup [i64v (two op a b).1, .v (.bool (two op a b).2)] ∧ h = []) := by
  refine callT_of_body [0, 1, 2, 6, 7, 8, 9, 14, 19, 24, 30, 36, 39] [] Tryz.func119 rfl (by decide) (by kernel_rfl) rfl ?_
  by_cases h1 : op = 5
  · simp [i64v, h1, two]
  by_cases h2 : op = 6
  · simp [i64v, h2, two]
  by_cases h3 : op = 7
  · simp [i64v, h3, two]
  by_cases h4 : op = 10
  · simp [i64v, h4]
    refine callT_eq [] (Truth_T (decide (a = b))) ?_
    simp [i64v, h4, two]
  by_cases h5 : op = 11
  · simp [i64v, h5]
    refine callT_eq [] (Truth_T (decide (a < b))) ?_
    simp [i64v, h5, two]
  by_cases h6 : b = 0
  · simp [i64v, h1, h2, h3, h4, h5, h6, two]
  by_cases h7 : op = 8
  · simp [i64v, h7, h6, two]
  · simp [i64v, h1, h2, h3, h4, h5, h6, h7, two]
end Go.Proofs.YtnkdkajllmopaaaGreat.TL

namespace Go.Proofs.YtnkdkajllmopaaaGreat.TL
open Go
set_option linter.unusedVariables false
set_option linter.unusedSimpArgs false

theorem callT_ex4 {P : Program} {f : Nat} {args0 args : List TV} {s : TS} {h0 : Heap} {H1 : Nat → Nat → Nat → Nat → Heap} {R : Nat → Nat → Nat → Nat → TV} {K : TV → Heap → Prop} (τ : List (Nat × Nat)) (hc : callT P f args0 ⟨[], h0⟩ (fun r h => ∃ a b c d, r = R a b c d ∧ h = H1 a b c d))
    (h : okTau τ = true ∧ args = renL (mapId τ) args0 ∧ okL (fun b => (mapId τ b).isSome = true) args0 ∧ (∀ p ∈ h0, okB (fun b => (mapId τ b).isSome = true) p.2.2 ∧ ∃ j, mapId τ p.1 = some j ∧ getH s.h j = some (p.2.1, renB (mapId τ) p.2.2)) ∧
      ∀ a b c d, okT (fun _ => True) (R a b c d) ∧ (∀ p ∈ H1 a b c d, (mapId τ p.1).isSome = true ∧ okB (fun _ => True) p.2.2) ∧ K (renT (mapId τ) (R a b c d)) (applyH (mapId τ) (H1 a b c d) τ s.h)) : callT P f args s K := by
  obtain ⟨h1, h2, h3, h4, h5⟩ := h
  exact callT_use τ hc h1 h2 h3 h4 fun r h ⟨a, b, c, d, e1, e2⟩ => by subst e1 e2; exact h5 a b c d

@[simp] theorem i64s_CloLd (l : List Int) (n : Nat) : CloL (List.drop n (l.map i64v)) := by rw [← List.map_drop]; exact i64s_CloL _
@[simp] theorem i64s_AllCd (l : List Int) (n : Nat) : AllC (List.drop n (l.map i64v)) := by rw [← List.map_drop]; exact i64s_AllC _
@[simp] theorem i64s_CloLt (l : List Int) (n : Nat) : CloL (List.take n (l.map i64v)) := by rw [← List.map_take]; exact i64s_CloL _
@[simp] theorem i64s_AllCt (l : List Int) (n : Nat) : AllC (List.take n (l.map i64v)) := by rw [← List.map_take]; exact i64s_AllC _
/-- slices.Clone of whole numbers, read for good. -/
theorem CloneI_T (vk : Nat) (s : List Int) (o : Nat) (ho : o ≤ s.length) (hl : s.length ≤ 64) :
    callT Tryz.prog 128 [.sl 2011 vk o (s.length - o)] ⟨[], [(2011, vk, ⟨1, s.map i64v⟩)]⟩ (fun r h => r = .isl ((s.drop o).map i64v) (s.length - o) ∧ h = [(2011, vk, ⟨1, s.map i64v⟩)]) := by
  refine callT.mono (K := fun r h => (s.length - o = 0 ∧ r = .v (.slice none 0 0) ∧ h = [(2011, vk, ⟨1, s.map i64v⟩)]) ∨ ∃ u', r = .sl 5 u' 0 (s.length - o) ∧ h = [(2011, vk, ⟨1, s.map i64v⟩), (5, u', ⟨1, (s.drop o).map i64v⟩)]) ?_ fun r h hh => ?_
  · refine callT_of_body [0, 2, 4] [2011, 5] Tryz.func128 rfl (by decide) (by kernel_rfl) rfl ?_
    have e1 : List.take (s.length - o) (List.drop o (s.map i64v)) = (s.drop o).map i64v := by rw [← List.map_drop]; exact List.take_of_length_le (by simp)
    simp [e1]
    omega
  · rcases hh with ⟨h0, rfl, rfl⟩ | ⟨u', rfl, rfl⟩
    · rw [h0, List.drop_of_length_le (by omega)]
      exact VLx.nil' ⟨rfl, rfl⟩
    · refine VLx.frz 5 rfl (VLx.done ?_)
      have e1 : List.take (s.length - o) (List.drop o (s.map i64v)) = List.drop o (s.map i64v) := List.take_of_length_le (by simp)
      simp [e1]

set_option maxRecDepth 100000 in
theorem Make_0 (fn locs : Int) (args : List Int) (h0 : (args.length : Int) ≤ locs) (h1 : locs ≤ 16) : callT Tryz.prog 100 [i64v fn, i64v locs, .isl (args.map i64v) args.length] ⟨[], []⟩ (fun r h => ∃ vf vs vl, r = .at 20 vf 0 ∧ h = [(11, vl, ⟨1, (args ++ List.replicate (locs.toNat - args.length) 0).map i64v⟩), (16, vs, ⟨0, [.v (.slice none 0 0)]⟩), (20, vf, ⟨0, [.at 16 vs 0, i64v fn, i64v 0, .sl 11 vl 0 locs.toNat]⟩)]) := by
  refine callT_of_body [0, 1, 2, 6, 7] [20, 16, 11] Tryz.func100 rfl (by decide) (by kernel_rfl) rfl ?_
  have e1 : max 0 (min locs 16) = locs := by omega
  have e1' : max (min locs 16) 0 = locs := by omega
  have e2 : List.take args.length (args.map i64v) = args.map i64v := List.take_of_length_le (by simp)
  simp [-List.reduceReplicate, i64v, e1, e1', e2]
  omega
/-- The locals of a call. -/
def locsOf (locs : Int) (args : List Int) : List Int := args ++ List.replicate (locs.toNat - args.length) 0
theorem length_locsOf {locs : Int} {args : List Int} (h0 : (args.length : Int) ≤ locs) : (locsOf locs args).length = locs.toNat := by simp [locsOf]; omega
/-- A frame that is made, by the machine's numbers. -/
theorem Make_T (fn locs : Int) (args : List Int) (h0 : (args.length : Int) ≤ locs) (h1 : locs ≤ 16) : callT Tryz.prog 100 [i64v fn, i64v locs, .isl (args.map i64v) args.length] ⟨[], []⟩ (fun r h => ∃ vf vs vk vl, r = .at 20 vf 0 ∧
    h = [(11, vl, ⟨1, (locsOf locs args).map i64v⟩), (16, vs, ⟨0, [.sl 2011 vk 0 0]⟩), (20, vf, ⟨0, [.at 16 vs 0, i64v fn, i64v 0, .sl 11 vl 0 (locsOf locs args).length]⟩), (2011, vk, ⟨1, []⟩)]) := by
  refine callT.mono (Make_0 fn locs args h0 h1) fun r h hh => ?_
  obtain ⟨vf, vs, vl, rfl, rfl⟩ := hh
  refine VLx.nilCell 16 0 2011 1 (by decide) (by decide) rfl rfl fun vk => VLx.done ⟨vf, vs, vk, vl, rfl, ?_⟩
  rw [length_locsOf h0]
  simp [setH, locsOf]

set_option maxRecDepth 100000 in
theorem Take_0 (vs vk : Nat) (s : List Int) (n : Nat) (hn : n ≤ s.length) (hs : s.length ≤ 64) : callT Tryz.prog 124 [.at 2010 vs 0, i64v n] ⟨[], stkH vs vk s⟩ (fun r h => r = .tup [.isl ((s.drop (s.length - n)).map i64v) n, .v (.bool true)] ∧ h = [(2010, vs, ⟨0, [.sl 2011 vk 0 (s.length - n)]⟩), (2011, vk, ⟨1, s.map i64v⟩)]) := by
  refine callT_of_body [0, 1, 4, 5, 6, 17] [2010, 2011] Tryz.func124 rfl (by decide) (by kernel_rfl) rfl ?_
  have h1 : ¬ (n : Int) < 0 := by omega
  have h2 : ¬ (s.length : Int) < n := by omega
  have e0 : IntKind.i64.wrap ((s.length : Int) - n) = ((s.length - n : Nat) : Int) := by rw [i64_id (by omega) (by omega)]; omega
  simp [i64v, h1, h2]
  refine draw_g [0, 1, 2, 3, 4, 5, 6, 7, 8, 9, 10] 11 [] (by kernel_rfl) (by kernel_rfl) (by kernel_rfl) ?_
  have e5 : s.length - (s.length - n) = n := by omega
  simp [e0]
  refine callT_eq [(2011, 2011)] (CloneI_T vk s (s.length - n) (by omega) hs) ?_
  simp [e5]
  refine draw_g [0, 1, 2, 3, 4, 5, 6, 7, 8, 9, 10, 11, 12] 13 [] (by kernel_rfl) (by kernel_rfl) (by kernel_rfl) ?_
  simp [e0]
theorem Take_T (vs vk : Nat) (s : List Int) (n : Nat) (hn : n ≤ s.length) (hs : s.length ≤ 64) : callT Tryz.prog 124 [.at 2010 vs 0, i64v n] ⟨[], stkH vs vk s⟩ (fun r h => r = .tup [.isl ((s.drop (s.length - n)).map i64v) n, .v (.bool true)] ∧ h = stkH vs vk (s.take (s.length - n))) := by
  refine callT.mono (Take_0 vs vk s n hn hs) fun r h hh => ?_
  obtain ⟨rfl, rfl⟩ := hh
  refine VLx.trim 2011 (s.length - n) rfl (VLx.done ⟨rfl, ?_⟩)
  simp [setH, ← List.map_take]
end Go.Proofs.YtnkdkajllmopaaaGreat.TL

namespace Go.Proofs.YtnkdkajllmopaaaGreat.TL
open Go
set_option linter.unusedVariables false
set_option linter.unusedSimpArgs false

/-- An instruction. -/
structure Ins where
  op : Int
  arg : Int
def Ins.cells (x : Ins) : List TV := [.v (.int .u8 x.op), i64v x.arg]
def rowIns (l : List Ins) : List TV := (l.map Ins.cells).flatten
/-- A function. -/
structure Fn where
  args : Int
  locs : Int
  code : List Ins
def Fn.cells (f : Fn) : List TV := [i64v f.args, i64v f.locs, .isl (rowIns f.code) f.code.length]
def rowFn (l : List Fn) : List TV := (l.map Fn.cells).flatten

/-- A world. -/
structure Wd where
  tab : Tab
  refused : Int
  e0 : Int
  e1 : Int
  e2 : Int
  e3 : Int
  e4 : Int
  e5 : Int
  turn : Int
  player : Int
  heap : List Int
  dice : Int
/-- Its blocks' versions. -/
structure Vs where
  w : Nat
  t : Nat
  m : Nat
  h : Nat
  d : Nat
@[simp] def hostV (V : Vs) : TV := .ifc 167 (.agg [.at 2001 V.w 0])
abbrev wdH (V : Vs) (u : Nat) (I : List Fn) (W : Wd) : Heap :=
  [(2001, V.w, ⟨0, [.at 2002 V.t 0, i64v W.refused, i64v W.e0, i64v W.e1, i64v W.e2, i64v W.e3, i64v W.e4, i64v W.e5, .at 2004 V.m 0, i64v W.turn, i64v W.player]⟩),
   (2002, V.t, ⟨0, [.sl 2003 u 0 W.tab.l.length, i64v W.tab.next]⟩), (2003, u, ⟨6, rowU W.tab.l⟩),
   (2004, V.m, ⟨0, [.at 2005 V.h 0, .at 2006 V.d 0, .isl (rowFn I) I.length, hostV V]⟩),
   (2005, V.h, ⟨0, W.heap.map i64v⟩), (2006, V.d, ⟨0, [.v (.int .u64 W.dice)]⟩)]

theorem rowIns_clo (l : List Ins) : CloL (rowIns l) ∧ AllC (rowIns l) := by
  induction l with
  | nil => simp [rowIns]
  | cons o l ih => simp [rowIns, Ins.cells, i64v] at ih ⊢; exact ih
@[simp] theorem rowIns_CloL (l : List Ins) : CloL (rowIns l) := (rowIns_clo l).1
@[simp] theorem rowIns_AllC (l : List Ins) : AllC (rowIns l) := (rowIns_clo l).2
theorem rowFn_clo (l : List Fn) : CloL (rowFn l) ∧ AllC (rowFn l) := by
  induction l with
  | nil => simp [rowFn]
  | cons o l ih => simp [rowFn, Fn.cells, i64v] at ih ⊢; exact ih
@[simp] theorem rowFn_CloL (l : List Fn) : CloL (rowFn l) := (rowFn_clo l).1
@[simp] theorem rowFn_AllC (l : List Fn) : AllC (rowFn l) := (rowFn_clo l).2

set_option maxRecDepth 100000 in
theorem Yes_T (b : Bool) : callT Tryz.prog 161 [.v (.bool b)] ⟨[], []⟩ (fun r h => r = i64v (tru b) ∧ h = []) := by
  refine callT_of_body [0, 2, 3] [] Tryz.func161 rfl (by decide) (by kernel_rfl) rfl ?_
  cases b <;> simp [i64v, tru]

def nI (l : List Int) (i : Nat) : Int := l[i]?.getD 0
/-- What the host does. -/
def Wd.do (W : Wd) (call : Int) (l : List Int) : Wd × Int × Bool :=
  if call = 0 then ({ W with tab := (W.tab.spawn (nI l 0) W.player (nI l 1) (nI l 2)).1 }, (W.tab.spawn (nI l 0) W.player (nI l 1) (nI l 2)).2, true)
  else if call = 1 then ({ W with tab := W.tab.kill (nI l 0) }, tru (found W.tab.l (nI l 0)), true)
  else if call = 2 then (if (W.tab.unit (nI l 0)).2 = false ∨ nI l 1 < 0 ∨ 4 < nI l 1 then (W, 0, false) else (W, nI (W.tab.unit (nI l 0)).1.flds (nI l 1).toNat, true))
  else if call = 3 then (if 0 ≤ nI l 1 ∧ nI l 1 ≤ 4 then ({ W with tab := (W.tab.set (nI l 0) (nI l 1) (nI l 2)).1 }, tru (W.tab.set (nI l 0) (nI l 1) (nI l 2)).2, true) else (W, 0, true))
  else if call = 4 then (W, W.tab.l.length, true)
  else if call = 5 then (W, W.tab.nth (nI l 0), true)
  else (W, W.player, true)

set_option maxHeartbeats 1000000 in
set_option maxRecDepth 100000 in
theorem Do_0 (V : Vs) (u : Nat) (I : List Fn) (W : Wd) (a b c : Int) (ht : W.tab.WF) : callT Tryz.prog 159 [.agg [.at 2001 V.w 0], i64v 0, .isl ([a, b, c].map i64v) 3] ⟨[], wdH V u I W⟩ (fun r h => ∃ u', r = .tup [i64v (W.do 0 [a, b, c]).2.1, .v (.bool (W.do 0 [a, b, c]).2.2)] ∧ h = wdH V u' I (W.do 0 [a, b, c]).1) := by
  refine callT_of_body [0, 1, 2, 3, 6, 7, 8, 9, 10, 13, 14, 34, 45, 71, 78, 107, 114] [2001, 2002, 2003, 2004, 2005, 2006] Tryz.func159 rfl (by decide) (by kernel_rfl) rfl ?_
  have hnx := ht.nx
  simp [i64v]
  intro v
  refine draw_g [0, 1, 2, 3, 4, 5, 6, 7, 8, 9, 10, 11, 12, 13, 14, 15, 16] 17 [] (by kernel_rfl) (by kernel_rfl) (by kernel_rfl) ?_
  simp
  refine callT_ex [(1000, 2002), (1001, 2003)] (Spawn_T V.t u W.tab a W.player b c ht.ok (by omega)) ?_
  simp [i64v, Wd.do, nI]

set_option maxHeartbeats 1000000 in
set_option maxRecDepth 100000 in
theorem Do_1 (V : Vs) (u : Nat) (I : List Fn) (W : Wd) (a : Int) (ht : W.tab.WF) : callT Tryz.prog 159 [.agg [.at 2001 V.w 0], i64v 1, .isl ([a].map i64v) 1] ⟨[], wdH V u I W⟩ (fun r h => ∃ u', r = .tup [i64v (W.do 1 [a]).2.1, .v (.bool (W.do 1 [a]).2.2)] ∧ h = wdH V u' I (W.do 1 [a]).1) := by
  refine callT_of_body [0, 1, 2, 3, 6, 7, 8, 9, 10, 13, 14, 34, 45, 71, 78, 107, 114] [2001, 2002, 2003, 2004, 2005, 2006] Tryz.func159 rfl (by decide) (by kernel_rfl) rfl ?_
  have hnx := ht.nx
  simp [i64v]
  intro v
  refine draw_g [0, 1, 2, 3, 4, 5, 6] 7 [] (by kernel_rfl) (by kernel_rfl) (by kernel_rfl) ?_
  simp
  refine callT_ex [(1000, 2002), (1001, 2003)] (Kill_T V.t u W.tab a ht.ok) ?_
  simp [i64v]
  intro u'
  refine callT_eq [] (Yes_T (found W.tab.l a)) ?_
  simp [i64v, Wd.do, nI]

set_option maxHeartbeats 1000000 in
set_option maxRecDepth 100000 in
theorem Do_2 (V : Vs) (u : Nat) (I : List Fn) (W : Wd) (a b : Int) (ht : W.tab.WF) : callT Tryz.prog 159 [.agg [.at 2001 V.w 0], i64v 2, .isl ([a, b].map i64v) 2] ⟨[], wdH V u I W⟩ (fun r h => ∃ u', r = .tup [i64v (W.do 2 [a, b]).2.1, .v (.bool (W.do 2 [a, b]).2.2)] ∧ h = wdH V u' I (W.do 2 [a, b]).1) := by
  refine callT_of_body [0, 1, 2, 3, 6, 7, 8, 9, 10, 13, 14, 34, 45, 71, 78, 107, 114] [2001, 2002, 2003, 2004, 2005, 2006] Tryz.func159 rfl (by decide) (by kernel_rfl) rfl ?_
  have hnx := ht.nx
  simp [i64v]
  intro v
  refine drawT_cut (α := Nat) (fun _ => True) (fun v9 => ⟨[(2, .isl [i64v a, i64v b] 2), (9, .at 9 v9 0), (10, .v (.bool (W.tab.unit a).2))], wdH V u I W ++ [(9, v9, ⟨0, (W.tab.unit a).1.cells⟩)]⟩) ?_ ?_
  · refine draw_h (pl [0, 1, 2, 3, 4, 5, 6] (.alt 7 (pl [8, 9, 10, 11, 12] .nil) 11 (pl [7, 8, 9, 10, 12] .nil))) 13 [(7, [0, 1, 2, 3, 4, 5, 6]), (11, []), (12, [0, 1, 2, 3, 4, 5, 6, 7, 8, 9, 11])] (by kernel_rfl) (by kernel_rfl) (by kernel_rfl) (by kernel_rfl) ?_
    simp
    refine ⟨?_, fun v9 => ?_⟩
    · refine callT_eq [(1000, 2002), (1001, 2003)] (Unit_T V.t u W.tab a ht.ok) ?_
      simp [i64v, Un.cells]
      intro v9
      exact SLx.at v9 trivial (by simp [i64v, Un.cells]) (by simp [i64v, Un.cells])
    · refine callT_eq [(1000, 2002), (1001, 2003)] (Unit_T V.t u W.tab a ht.ok) ?_
      simp [i64v, Un.cells]
      exact SLx.at v9 trivial (by simp [i64v, Un.cells]) (by simp [i64v, Un.cells])
  · intro v9 _
    generalize hU : W.tab.unit a = U
    obtain ⟨w, ok⟩ := U
    cases ok with
    | false => simp [i64v, Wd.do, nI, hU]
    | true =>
      by_cases h1 : b < 0
      · simp [i64v, Wd.do, nI, hU, h1]
      · by_cases h2 : 4 < b
        · simp [i64v, Wd.do, nI, hU, h1, h2]
        · have hb : b = 0 ∨ b = 1 ∨ b = 2 ∨ b = 3 ∨ b = 4 := by omega
          rcases hb with rfl | rfl | rfl | rfl | rfl <;> simp [i64v, Wd.do, nI, hU, Un.cells, Un.flds]

set_option maxHeartbeats 1000000 in
set_option maxRecDepth 100000 in
theorem Do_3 (V : Vs) (u : Nat) (I : List Fn) (W : Wd) (a b c : Int) (ht : W.tab.WF) : callT Tryz.prog 159 [.agg [.at 2001 V.w 0], i64v 3, .isl ([a, b, c].map i64v) 3] ⟨[], wdH V u I W⟩ (fun r h => ∃ u', r = .tup [i64v (W.do 3 [a, b, c]).2.1, .v (.bool (W.do 3 [a, b, c]).2.2)] ∧ h = wdH V u' I (W.do 3 [a, b, c]).1) := by
  refine callT_of_body [0, 1, 2, 3, 6, 7, 8, 9, 10, 13, 14, 34, 45, 71, 78, 107, 114] [2001, 2002, 2003, 2004, 2005, 2006] Tryz.func159 rfl (by decide) (by kernel_rfl) rfl ?_
  have hnx := ht.nx
  by_cases h1 : 0 ≤ b
  · by_cases h2 : b ≤ 4
    · simp [i64v, h1, h2]
      intro v
      refine draw_g [0, 1, 2, 3, 4, 5, 6, 7, 8, 9, 10, 11, 12, 13, 14, 15, 16, 17, 18, 19, 20, 21, 22, 23] 24 [] (by kernel_rfl) (by kernel_rfl) (by kernel_rfl) ?_
      simp [h1, h2]
      refine callT_ex [(1000, 2002), (1001, 2003)] (Set_T V.t u W.tab a b c ht.ok) ?_
      simp [h1, h2, i64v]
      intro u'
      refine callT_eq [] (Yes_T (W.tab.set a b c).2) ?_
      simp [i64v, Wd.do, nI, h1, h2]
    · simp [i64v, h1, h2]
      intro v
      refine draw_g [0, 1, 2, 3, 4, 5, 6, 7, 8, 9, 10, 11, 12, 13, 14, 15, 16, 17, 18, 19, 20, 21, 22, 23] 24 [] (by kernel_rfl) (by kernel_rfl) (by kernel_rfl) ?_
      simp [h1, h2]
      refine callT_eq [] (Yes_T false) ?_
      simp [i64v, Wd.do, nI, h1, h2, tru]
  · simp [i64v, h1]
    intro v
    refine draw_g [0, 1, 2, 3, 4, 5, 6, 7, 8, 9, 10, 11, 12, 13, 14, 15, 16, 17, 18, 19, 20, 21, 22, 23] 24 [] (by kernel_rfl) (by kernel_rfl) (by kernel_rfl) ?_
    simp [h1]
    refine callT_eq [] (Yes_T false) ?_
    simp [i64v, Wd.do, nI, h1, tru]

set_option maxHeartbeats 1000000 in
set_option maxRecDepth 100000 in
theorem Do_4 (V : Vs) (u : Nat) (I : List Fn) (W : Wd) (ht : W.tab.WF) : callT Tryz.prog 159 [.agg [.at 2001 V.w 0], i64v 4, .isl [] 0] ⟨[], wdH V u I W⟩ (fun r h => ∃ u', r = .tup [i64v (W.do 4 []).2.1, .v (.bool (W.do 4 []).2.2)] ∧ h = wdH V u' I (W.do 4 []).1) := by
  refine callT_of_body [0, 1, 2, 3, 6, 7, 8, 9, 10, 13, 14, 34, 45, 71, 78, 107, 114] [2001, 2002, 2003, 2004, 2005, 2006] Tryz.func159 rfl (by decide) (by kernel_rfl) rfl ?_
  simp [i64v]
  intro v
  refine callT_eq [(1000, 2002), (1001, 2003)] (Len_T V.t u W.tab) ?_
  simp [i64v, Wd.do, nI]

set_option maxHeartbeats 1000000 in
set_option maxRecDepth 100000 in
theorem Do_5 (V : Vs) (u : Nat) (I : List Fn) (W : Wd) (a : Int) (ht : W.tab.WF) : callT Tryz.prog 159 [.agg [.at 2001 V.w 0], i64v 5, .isl ([a].map i64v) 1] ⟨[], wdH V u I W⟩ (fun r h => ∃ u', r = .tup [i64v (W.do 5 [a]).2.1, .v (.bool (W.do 5 [a]).2.2)] ∧ h = wdH V u' I (W.do 5 [a]).1) := by
  refine callT_of_body [0, 1, 2, 3, 6, 7, 8, 9, 10, 13, 14, 34, 45, 71, 78, 107, 114] [2001, 2002, 2003, 2004, 2005, 2006] Tryz.func159 rfl (by decide) (by kernel_rfl) rfl ?_
  simp [i64v]
  intro v
  refine draw_g [0, 1, 2, 3, 4, 5, 6] 7 [] (by kernel_rfl) (by kernel_rfl) (by kernel_rfl) ?_
  simp
  refine callT_eq [(1000, 2002), (1001, 2003)] (Nth_T V.t u W.tab a) ?_
  simp [i64v, Wd.do, nI]

set_option maxHeartbeats 1000000 in
set_option maxRecDepth 100000 in
theorem Do_6 (V : Vs) (u : Nat) (I : List Fn) (W : Wd) (ht : W.tab.WF) : callT Tryz.prog 159 [.agg [.at 2001 V.w 0], i64v 6, .isl [] 0] ⟨[], wdH V u I W⟩ (fun r h => ∃ u', r = .tup [i64v (W.do 6 []).2.1, .v (.bool (W.do 6 []).2.2)] ∧ h = wdH V u' I (W.do 6 []).1) := by
  refine callT_of_body [0, 1, 2, 3, 6, 7, 8, 9, 10, 13, 14, 34, 45, 71, 78, 107, 114] [2001, 2002, 2003, 2004, 2005, 2006] Tryz.func159 rfl (by decide) (by kernel_rfl) rfl ?_
  simp [i64v, Wd.do]
end Go.Proofs.YtnkdkajllmopaaaGreat.TL

