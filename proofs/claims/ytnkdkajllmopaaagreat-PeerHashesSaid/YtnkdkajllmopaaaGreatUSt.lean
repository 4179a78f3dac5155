/- One step of the machine, where no call is in another. -/
import Derived.Test.YtnkdkajllmopaaaGreatUVm
namespace Go.Proofs.YtnkdkajllmopaaaGreat.TL
open Go
set_option linter.unusedVariables false
set_option linter.unusedSimpArgs false

def hostArgs (n : Int) : Nat := ([3, 1, 2, 3, 0, 1, 0] : List Nat)[n.toNat]?.getD 0
theorem Do_T (V : Vs) (u : Nat) (I : List Fn) (W : Wd) (n : Int) (l : List Int) (ht : W.tab.WF) (h0 : 0 ≤ n) (h7 : n < 7) (hl : l.length = hostArgs n) : callT Tryz.prog 159 [.agg [.at 2001 V.w 0], i64v n, .isl (l.map i64v) l.length] ⟨[], wdH V u I W⟩ (fun r h => ∃ u', r = .tup [i64v (W.do n l).2.1, .v (.bool (W.do n l).2.2)] ∧ h = wdH V u' I (W.do n l).1) := by
  have hn : n = 0 ∨ n = 1 ∨ n = 2 ∨ n = 3 ∨ n = 4 ∨ n = 5 ∨ n = 6 := by omega
  rcases hn with rfl | rfl | rfl | rfl | rfl | rfl | rfl
  · match l, hl with | [a, b, c], _ => exact Do_0 V u I W a b c ht
  · match l, hl with | [a], _ => exact Do_1 V u I W a ht
  · match l, hl with | [a, b], _ => exact Do_2 V u I W a b ht
  · match l, hl with | [a, b, c], _ => exact Do_3 V u I W a b c ht
  · match l, hl with | [], _ => exact Do_4 V u I W ht
  · match l, hl with | [a], _ => exact Do_5 V u I W a ht
  · match l, hl with | [], _ => exact Do_6 V u I W ht
theorem Wd.do_WF {W : Wd} (h : W.tab.WF) (n : Int) (l : List Int) : (W.do n l).1.tab.WF := by
  unfold Wd.do
  split
  · exact h.spawn _ _ _ _
  split
  · exact h.kill _
  split
  · split <;> exact h
  split
  · split
    · exact h.set _ _ _
    · exact h
  split
  · exact h
  split <;> exact h
theorem Wd.do_heap (W : Wd) (n : Int) (l : List Int) : (W.do n l).1.heap = W.heap := by
  unfold Wd.do
  split
  · rfl
  split
  · rfl
  split
  · split <;> rfl
  split
  · split <;> rfl
  split
  · rfl
  split <;> rfl

/-- What runs: the world, the one call, how many calls there are, how it ended. -/
structure St where
  W : Wd
  f : Fr
  n : Nat
  trap : Int
  val : Int
/-- The versions of its blocks. -/
structure Vr where
  r : Nat
  c : Nat
  f : Nat
  s : Nat
  l : Nat
abbrev rsH (V : Vs) (R : Vr) (u k : Nat) (I : List Fn) (S : St) : Heap :=
  [(2007, R.r, ⟨0, [.at 2004 V.m 0, .sl 2008 R.c 0 S.n, i64v S.trap, i64v S.val]⟩), (2008, R.c, ⟨1, [.at 2009 R.f 0]⟩),
   (2009, R.f, ⟨0, [.at 2010 R.s 0, i64v S.f.fn, i64v S.f.at', .sl 2012 R.l 0 S.f.loc.length]⟩), (2010, R.s, ⟨0, [.sl 2011 k 0 S.f.stk.length]⟩), (2011, k, ⟨1, S.f.stk.map i64v⟩), (2012, R.l, ⟨1, S.f.loc.map i64v⟩)] ++ wdH V u I S.W

theorem popL_len (s : List Int) : (popL s).1.length ≤ s.length := by simp [popL]

/-- One step, at an instruction. -/
def stepX (x : Ins) (W : Wd) (f : Fr) : St :=
  let on (f : Fr) : St := ⟨W, f, 1, 0, 0⟩
  let a := (popL f.stk).2
  let s1 := (popL f.stk).1
  let b := (popL s1).2
  let s2 := (popL s1).1
  let at1 := f.at' + 1
  if x.op = 1 then on ⟨f.fn, at1, pushL f.stk [x.arg], f.loc⟩
  else if x.op = 2 then on ⟨f.fn, at1, s1, f.loc⟩
  else if x.op = 3 then on ⟨f.fn, at1, pushL s1 [a, a], f.loc⟩
  else if x.op = 4 then on ⟨f.fn, at1, pushL s2 [a, b], f.loc⟩
  else if x.op = 12 then on ⟨f.fn, at1, pushL s1 [tru (decide (a = 0))], f.loc⟩
  else if x.op = 13 then on ⟨f.fn, x.arg.toNat, f.stk, f.loc⟩
  else if x.op = 14 then on ⟨f.fn, if a = 0 then x.arg.toNat else at1, s1, f.loc⟩
  else if x.op = 17 then on ⟨f.fn, at1, pushL f.stk [getLoc f.loc x.arg], f.loc⟩
  else if x.op = 18 then on ⟨f.fn, at1, s1, setLoc f.loc x.arg a⟩
  else if x.op = 21 then ⟨{ W with dice := (below W.dice a).1 }, ⟨f.fn, at1, pushL s1 [(below W.dice a).2], f.loc⟩, 1, 0, 0⟩
  else if x.op = 16 then ⟨W, ⟨f.fn, at1, s1, f.loc⟩, 0, 0, a⟩
  else if x.op = 19 then (if cellOk a then on ⟨f.fn, at1, pushL s1 [getC W.heap a], f.loc⟩ else ⟨W, ⟨f.fn, at1, s1, f.loc⟩, 1, 4, 0⟩)
  else if x.op = 20 then (if cellOk a then ⟨{ W with heap := putC W.heap a b }, ⟨f.fn, at1, s2, f.loc⟩, 1, 0, 0⟩ else ⟨W, ⟨f.fn, at1, s2, f.loc⟩, 1, 4, 0⟩)
  else if x.op = 22 then
    (let k := f.stk.length - hostArgs x.arg
     let d := W.do x.arg (f.stk.drop k)
     if d.2.2 then ⟨d.1, ⟨f.fn, at1, pushL (f.stk.take k) [d.2.1], f.loc⟩, 1, 0, 0⟩ else ⟨d.1, ⟨f.fn, at1, f.stk.take k, f.loc⟩, 1, 5, 0⟩)
  else if (two x.op b a).2 then on ⟨f.fn, at1, pushL s2 [(two x.op b a).1], f.loc⟩ else ⟨W, ⟨f.fn, at1, s2, f.loc⟩, 1, 1, 0⟩

theorem rowFn_at : ∀ {I : List Fn} {k : Nat} {g : Fn}, I[k]? = some g → List.drop (k * 3) (rowFn I) = i64v g.args :: i64v g.locs :: .isl (rowIns g.code) g.code.length :: rowFn (I.drop (k + 1))
  | [], k, g, h => by simp at h
  | f :: I, 0, g, h => by simp at h; subst h; simp [rowFn, Fn.cells]
  | f :: I, k + 1, g, h => by
    have := rowFn_at (I := I) (k := k) (g := g) (by simpa using h)
    rw [show (k + 1) * 3 = 3 + k * 3 by omega, ← List.drop_drop]
    simpa [rowFn, Fn.cells] using this
theorem rowIns_at : ∀ {I : List Ins} {k : Nat} {g : Ins}, I[k]? = some g → List.drop (k * 2) (rowIns I) = .v (.int .u8 g.op) :: i64v g.arg :: rowIns (I.drop (k + 1))
  | [], k, g, h => by simp at h
  | f :: I, 0, g, h => by simp at h; subst h; simp [rowIns, Ins.cells]
  | f :: I, k + 1, g, h => by
    have := rowIns_at (I := I) (k := k) (g := g) (by simpa using h)
    rw [show (k + 1) * 2 = 2 + k * 2 by omega, ← List.drop_drop]
    simpa [rowIns, Ins.cells] using this
@[simp] theorem rowFn_length (l : List Fn) : (rowFn l).length = l.length * 3 := by
  induction l with
  | nil => rfl
  | cons o l ih => simp [rowFn, Fn.cells] at ih ⊢; omega
@[simp] theorem rowIns_length (l : List Ins) : (rowIns l).length = l.length * 2 := by
  induction l with
  | nil => rfl
  | cons o l ih => simp [rowIns, Ins.cells] at ih ⊢; omega

set_option maxHeartbeats 4000000 in
set_option maxRecDepth 100000 in
theorem Step_1 (V : Vs) (R : Vr) (u k : Nat) (I : List Fn) (W : Wd) (f : Fr) (g : Fn) (a : Int) (hg : I[f.fn]? = some g) (hx : g.code[f.at']? = some ⟨1, a⟩) (hs : f.stk.length ≤ 64) (hl : f.loc.length ≤ 16) (hc : g.code.length ≤ 1000000) (hW : W.tab.WF) (hh : W.heap.length = 64) : callT Tryz.prog 101 [.at 2007 R.r 0] ⟨[], rsH V R u k I ⟨W, f, 1, 0, 0⟩⟩ (fun r h => ∃ u' k', r = .tup [] ∧ h = rsH V R u' k' I (stepX ⟨1, a⟩ W f)) := by
  refine callT_of_body [0, 2, 3, 4, 5, 6, 7, 8, 9, 10, 52, 72, 83, 93, 100, 115, 135, 150, 157, 164, 170, 182, 193, 214] [2007, 2008, 2009, 2010, 2011, 2012, 2001, 2002, 2003, 2004, 2005, 2006] Tryz.func101 rfl (by decide) (by kernel_rfl) rfl ?_
  have hf := rowFn_at hg
  have hi := rowIns_at hx
  obtain ⟨hfl, -⟩ := List.getElem?_eq_some_iff.1 hg
  obtain ⟨hxl, -⟩ := List.getElem?_eq_some_iff.1 hx
  have e1 : IntKind.i64.wrap ((f.at' : Int) + 1) = ((f.at' + 1 : Nat) : Int) := by rw [i64_id (by omega) (by omega)]; rfl
  have w0 : IntKind.i64.wrap 0 = 0 := i64_id (by decide) (by decide)
  have hs1 : (popL f.stk).1.length ≤ 64 := Nat.le_trans (popL_len _) hs
  have hs2 : (popL (popL f.stk).1).1.length ≤ 64 := Nat.le_trans (popL_len _) hs1
  simp only [i64v] at hf hi
  simp [i64v, hf, hi, hfl, hxl, e1, w0]
  refine draw_g [0, 1, 2, 3, 4, 5, 6, 7, 8, 9] 10 [] (by kernel_rfl) (by kernel_rfl) (by kernel_rfl) ?_
  simp [i64v, hf, hi, hfl, hxl, e1, w0]
  refine draw_g [0, 1, 2, 3, 4, 5, 6, 7, 8, 9, 10, 11, 12, 13, 14, 15, 16, 17, 18, 19, 20, 21] 22 [(21, [])] (by kernel_rfl) (by kernel_rfl) (by kernel_rfl) ?_
  simp [i64v, hf, hi, hfl, hxl, e1, w0]
  intro v3
  refine draw_g [0, 1, 2, 3, 4, 5, 6] 7 [] (by kernel_rfl) (by kernel_rfl) (by kernel_rfl) ?_
  simp [i64v, e1]
  refine callT_ex [(2010, 2010), (2011, 2011)] (Push_T R.s k f.stk [a] hs (by simp)) ?_
  simp [i64v, e1, stepX]

set_option maxHeartbeats 4000000 in
set_option maxRecDepth 100000 in
theorem Step_2 (V : Vs) (R : Vr) (u k : Nat) (I : List Fn) (W : Wd) (f : Fr) (g : Fn) (a : Int) (hg : I[f.fn]? = some g) (hx : g.code[f.at']? = some ⟨2, a⟩) (hs : f.stk.length ≤ 64) (hl : f.loc.length ≤ 16) (hc : g.code.length ≤ 1000000) (hW : W.tab.WF) (hh : W.heap.length = 64) : callT Tryz.prog 101 [.at 2007 R.r 0] ⟨[], rsH V R u k I ⟨W, f, 1, 0, 0⟩⟩ (fun r h => ∃ u' k', r = .tup [] ∧ h = rsH V R u' k' I (stepX ⟨2, a⟩ W f)) := by
  refine callT_of_body [0, 2, 3, 4, 5, 6, 7, 8, 9, 10, 52, 72, 83, 93, 100, 115, 135, 150, 157, 164, 170, 182, 193, 214] [2007, 2008, 2009, 2010, 2011, 2012, 2001, 2002, 2003, 2004, 2005, 2006] Tryz.func101 rfl (by decide) (by kernel_rfl) rfl ?_
  have hf := rowFn_at hg
  have hi := rowIns_at hx
  obtain ⟨hfl, -⟩ := List.getElem?_eq_some_iff.1 hg
  obtain ⟨hxl, -⟩ := List.getElem?_eq_some_iff.1 hx
  have e1 : IntKind.i64.wrap ((f.at' : Int) + 1) = ((f.at' + 1 : Nat) : Int) := by rw [i64_id (by omega) (by omega)]; rfl
  have w0 : IntKind.i64.wrap 0 = 0 := i64_id (by decide) (by decide)
  have hs1 : (popL f.stk).1.length ≤ 64 := Nat.le_trans (popL_len _) hs
  have hs2 : (popL (popL f.stk).1).1.length ≤ 64 := Nat.le_trans (popL_len _) hs1
  simp only [i64v] at hf hi
  simp [i64v, hf, hi, hfl, hxl, e1, w0]
  refine draw_g [0, 1, 2, 3, 4, 5, 6, 7, 8, 9] 10 [] (by kernel_rfl) (by kernel_rfl) (by kernel_rfl) ?_
  simp [i64v, hf, hi, hfl, hxl, e1, w0]
  refine draw_g [0, 1, 2, 3, 4, 5, 6, 7, 8, 9, 10, 11, 12, 13, 14, 15, 16, 17, 18, 19, 20, 21] 22 [(21, [])] (by kernel_rfl) (by kernel_rfl) (by kernel_rfl) ?_
  simp [i64v, hf, hi, hfl, hxl, e1, w0]
  intro v3
  refine callT_eq [(2010, 2010), (2011, 2011)] (Pop_T R.s k f.stk hs) ?_
  simp [i64v, e1]
  simp [stepX]

set_option maxHeartbeats 4000000 in
set_option maxRecDepth 100000 in
theorem Step_3 (V : Vs) (R : Vr) (u k : Nat) (I : List Fn) (W : Wd) (f : Fr) (g : Fn) (a : Int) (hg : I[f.fn]? = some g) (hx : g.code[f.at']? = some ⟨3, a⟩) (hs : f.stk.length ≤ 64) (hl : f.loc.length ≤ 16) (hc : g.code.length ≤ 1000000) (hW : W.tab.WF) (hh : W.heap.length = 64) : callT Tryz.prog 101 [.at 2007 R.r 0] ⟨[], rsH V R u k I ⟨W, f, 1, 0, 0⟩⟩ (fun r h => ∃ u' k', r = .tup [] ∧ h = rsH V R u' k' I (stepX ⟨3, a⟩ W f)) := by
  refine callT_of_body [0, 2, 3, 4, 5, 6, 7, 8, 9, 10, 52, 72, 83, 93, 100, 115, 135, 150, 157, 164, 170, 182, 193, 214] [2007, 2008, 2009, 2010, 2011, 2012, 2001, 2002, 2003, 2004, 2005, 2006] Tryz.func101 rfl (by decide) (by kernel_rfl) rfl ?_
  have hf := rowFn_at hg
  have hi := rowIns_at hx
  obtain ⟨hfl, -⟩ := List.getElem?_eq_some_iff.1 hg
  obtain ⟨hxl, -⟩ := List.getElem?_eq_some_iff.1 hx
  have e1 : IntKind.i64.wrap ((f.at' : Int) + 1) = ((f.at' + 1 : Nat) : Int) := by rw [i64_id (by omega) (by omega)]; rfl
  have w0 : IntKind.i64.wrap 0 = 0 := i64_id (by decide) (by decide)
  have hs1 : (popL f.stk).1.length ≤ 64 := Nat.le_trans (popL_len _) hs
  have hs2 : (popL (popL f.stk).1).1.length ≤ 64 := Nat.le_trans (popL_len _) hs1
  simp only [i64v] at hf hi
  simp [i64v, hf, hi, hfl, hxl, e1, w0]
  refine draw_g [0, 1, 2, 3, 4, 5, 6, 7, 8, 9] 10 [] (by kernel_rfl) (by kernel_rfl) (by kernel_rfl) ?_
  simp [i64v, hf, hi, hfl, hxl, e1, w0]
  refine draw_g [0, 1, 2, 3, 4, 5, 6, 7, 8, 9, 10, 11, 12, 13, 14, 15, 16, 17, 18, 19, 20, 21] 22 [(21, [])] (by kernel_rfl) (by kernel_rfl) (by kernel_rfl) ?_
  simp [i64v, hf, hi, hfl, hxl, e1, w0]
  intro v3
  refine callT_eq [(2010, 2010), (2011, 2011)] (Pop_T R.s k f.stk hs) ?_
  simp [i64v, e1]
  intro vb
  refine callT.pre (fn_of (Push_T R.s k (popL f.stk).1 [(popL f.stk).2, (popL f.stk).2] hs1 (by simp))) (CLx.frz 113 rfl (CLx.done ?_))
  simp [i64v, e1]
  refine callT_ex [(2010, 2010), (2011, 2011)] (Push_T R.s k (popL f.stk).1 [(popL f.stk).2, (popL f.stk).2] hs1 (by simp)) ?_
  simp [i64v, e1, stepX]

set_option maxHeartbeats 4000000 in
set_option maxRecDepth 100000 in
theorem Step_4 (V : Vs) (R : Vr) (u k : Nat) (I : List Fn) (W : Wd) (f : Fr) (g : Fn) (a : Int) (hg : I[f.fn]? = some g) (hx : g.code[f.at']? = some ⟨4, a⟩) (hs : f.stk.length ≤ 64) (hl : f.loc.length ≤ 16) (hc : g.code.length ≤ 1000000) (hW : W.tab.WF) (hh : W.heap.length = 64) : callT Tryz.prog 101 [.at 2007 R.r 0] ⟨[], rsH V R u k I ⟨W, f, 1, 0, 0⟩⟩ (fun r h => ∃ u' k', r = .tup [] ∧ h = rsH V R u' k' I (stepX ⟨4, a⟩ W f)) := by
  refine callT_of_body [0, 2, 3, 4, 5, 6, 7, 8, 9, 10, 52, 72, 83, 93, 100, 115, 135, 150, 157, 164, 170, 182, 193, 214] [2007, 2008, 2009, 2010, 2011, 2012, 2001, 2002, 2003, 2004, 2005, 2006] Tryz.func101 rfl (by decide) (by kernel_rfl) rfl ?_
  have hf := rowFn_at hg
  have hi := rowIns_at hx
  obtain ⟨hfl, -⟩ := List.getElem?_eq_some_iff.1 hg
  obtain ⟨hxl, -⟩ := List.getElem?_eq_some_iff.1 hx
  have e1 : IntKind.i64.wrap ((f.at' : Int) + 1) = ((f.at' + 1 : Nat) : Int) := by rw [i64_id (by omega) (by omega)]; rfl
  have w0 : IntKind.i64.wrap 0 = 0 := i64_id (by decide) (by decide)
  have hs1 : (popL f.stk).1.length ≤ 64 := Nat.le_trans (popL_len _) hs
  have hs2 : (popL (popL f.stk).1).1.length ≤ 64 := Nat.le_trans (popL_len _) hs1
  simp only [i64v] at hf hi
  simp [i64v, hf, hi, hfl, hxl, e1, w0]
  refine draw_g [0, 1, 2, 3, 4, 5, 6, 7, 8, 9] 10 [] (by kernel_rfl) (by kernel_rfl) (by kernel_rfl) ?_
  simp [i64v, hf, hi, hfl, hxl, e1, w0]
  refine draw_g [0, 1, 2, 3, 4, 5, 6, 7, 8, 9, 10, 11, 12, 13, 14, 15, 16, 17, 18, 19, 20, 21] 22 [(21, [])] (by kernel_rfl) (by kernel_rfl) (by kernel_rfl) ?_
  simp [i64v, hf, hi, hfl, hxl, e1, w0]
  intro v3
  refine draw_g [0, 1, 2, 3, 5, 6, 7, 8, 4] 9 [(4, [0, 1, 2, 3])] (by kernel_rfl) (by kernel_rfl) (by kernel_rfl) ?_
  simp [i64v, e1]
  refine callT_eq [(2010, 2010), (2011, 2011)] (Pop_T R.s k f.stk hs) ?_
  simp [i64v, e1]
  refine callT_eq [(2010, 2010), (2011, 2011)] (Pop_T R.s k (popL f.stk).1 hs1) ?_
  simp [i64v, e1]
  intro vb
  refine callT.pre (fn_of (Push_T R.s k (popL (popL f.stk).1).1 [(popL f.stk).2, (popL (popL f.stk).1).2] hs2 (by simp))) (CLx.frz 133 rfl (CLx.done ?_))
  simp [i64v, e1]
  refine callT_ex [(2010, 2010), (2011, 2011)] (Push_T R.s k (popL (popL f.stk).1).1 [(popL f.stk).2, (popL (popL f.stk).1).2] hs2 (by simp)) ?_
  simp [i64v, e1, stepX]

set_option maxHeartbeats 4000000 in
set_option maxRecDepth 100000 in
theorem Step_12 (V : Vs) (R : Vr) (u k : Nat) (I : List Fn) (W : Wd) (f : Fr) (g : Fn) (a : Int) (hg : I[f.fn]? = some g) (hx : g.code[f.at']? = some ⟨12, a⟩) (hs : f.stk.length ≤ 64) (hl : f.loc.length ≤ 16) (hc : g.code.length ≤ 1000000) (hW : W.tab.WF) (hh : W.heap.length = 64) : callT Tryz.prog 101 [.at 2007 R.r 0] ⟨[], rsH V R u k I ⟨W, f, 1, 0, 0⟩⟩ (fun r h => ∃ u' k', r = .tup [] ∧ h = rsH V R u' k' I (stepX ⟨12, a⟩ W f)) := by
  refine callT_of_body [0, 2, 3, 4, 5, 6, 7, 8, 9, 10, 52, 72, 83, 93, 100, 115, 135, 150, 157, 164, 170, 182, 193, 214] [2007, 2008, 2009, 2010, 2011, 2012, 2001, 2002, 2003, 2004, 2005, 2006] Tryz.func101 rfl (by decide) (by kernel_rfl) rfl ?_
  have hf := rowFn_at hg
  have hi := rowIns_at hx
  obtain ⟨hfl, -⟩ := List.getElem?_eq_some_iff.1 hg
  obtain ⟨hxl, -⟩ := List.getElem?_eq_some_iff.1 hx
  have e1 : IntKind.i64.wrap ((f.at' : Int) + 1) = ((f.at' + 1 : Nat) : Int) := by rw [i64_id (by omega) (by omega)]; rfl
  have w0 : IntKind.i64.wrap 0 = 0 := i64_id (by decide) (by decide)
  have hs1 : (popL f.stk).1.length ≤ 64 := Nat.le_trans (popL_len _) hs
  have hs2 : (popL (popL f.stk).1).1.length ≤ 64 := Nat.le_trans (popL_len _) hs1
  simp only [i64v] at hf hi
  simp [i64v, hf, hi, hfl, hxl, e1, w0]
  refine draw_g [0, 1, 2, 3, 4, 5, 6, 7, 8, 9] 10 [] (by kernel_rfl) (by kernel_rfl) (by kernel_rfl) ?_
  simp [i64v, hf, hi, hfl, hxl, e1, w0]
  refine draw_g [0, 1, 2, 3, 4, 5, 6, 7, 8, 9, 10, 11, 12, 13, 14, 15, 16, 17, 18, 19, 20, 21] 22 [(21, [])] (by kernel_rfl) (by kernel_rfl) (by kernel_rfl) ?_
  simp [i64v, hf, hi, hfl, hxl, e1, w0]
  intro v3
  refine draw_g [0, 1, 2, 3, 4, 5, 6, 7, 8, 9, 10, 11] 12 [(8, [4, 5, 6, 7]), (10, [4, 5, 6, 7, 8, 9])] (by kernel_rfl) (by kernel_rfl) (by kernel_rfl) ?_
  simp [i64v, e1]
  refine callT_eq [(2010, 2010), (2011, 2011)] (Pop_T R.s k f.stk hs) ?_
  simp [i64v, e1]
  refine callT_eq [] (Truth_T (decide ((popL f.stk).2 = 0))) ?_
  simp [i64v, e1]
  refine callT_ex [(2010, 2010), (2011, 2011)] (Push_T R.s k (popL f.stk).1 [tru (decide ((popL f.stk).2 = 0))] hs1 (by simp)) ?_
  simp [i64v, e1, stepX]

set_option maxHeartbeats 4000000 in
set_option maxRecDepth 100000 in
theorem Step_13 (V : Vs) (R : Vr) (u k : Nat) (I : List Fn) (W : Wd) (f : Fr) (g : Fn) (a : Int) (hg : I[f.fn]? = some g) (hx : g.code[f.at']? = some ⟨13, a⟩) (hs : f.stk.length ≤ 64) (hl : f.loc.length ≤ 16) (hc : g.code.length ≤ 1000000) (hW : W.tab.WF) (hh : W.heap.length = 64) (ha : 0 ≤ a) : callT Tryz.prog 101 [.at 2007 R.r 0] ⟨[], rsH V R u k I ⟨W, f, 1, 0, 0⟩⟩ (fun r h => ∃ u' k', r = .tup [] ∧ h = rsH V R u' k' I (stepX ⟨13, a⟩ W f)) := by
  refine callT_of_body [0, 2, 3, 4, 5, 6, 7, 8, 9, 10, 52, 72, 83, 93, 100, 115, 135, 150, 157, 164, 170, 182, 193, 214] [2007, 2008, 2009, 2010, 2011, 2012, 2001, 2002, 2003, 2004, 2005, 2006] Tryz.func101 rfl (by decide) (by kernel_rfl) rfl ?_
  have hf := rowFn_at hg
  have hi := rowIns_at hx
  obtain ⟨hfl, -⟩ := List.getElem?_eq_some_iff.1 hg
  obtain ⟨hxl, -⟩ := List.getElem?_eq_some_iff.1 hx
  have e1 : IntKind.i64.wrap ((f.at' : Int) + 1) = ((f.at' + 1 : Nat) : Int) := by rw [i64_id (by omega) (by omega)]; rfl
  have w0 : IntKind.i64.wrap 0 = 0 := i64_id (by decide) (by decide)
  have hs1 : (popL f.stk).1.length ≤ 64 := Nat.le_trans (popL_len _) hs
  have hs2 : (popL (popL f.stk).1).1.length ≤ 64 := Nat.le_trans (popL_len _) hs1
  simp only [i64v] at hf hi
  simp [i64v, hf, hi, hfl, hxl, e1, w0]
  refine draw_g [0, 1, 2, 3, 4, 5, 6, 7, 8, 9] 10 [] (by kernel_rfl) (by kernel_rfl) (by kernel_rfl) ?_
  simp [i64v, hf, hi, hfl, hxl, e1, w0]
  refine draw_g [0, 1, 2, 3, 4, 5, 6, 7, 8, 9, 10, 11, 12, 13, 14, 15, 16, 17, 18, 19, 20, 21] 22 [(21, [])] (by kernel_rfl) (by kernel_rfl) (by kernel_rfl) ?_
  simp [i64v, hf, hi, hfl, hxl, e1, w0]
  have em : max a 0 = a := by omega
  simp [i64v, e1, stepX, em]

set_option maxHeartbeats 4000000 in
set_option maxRecDepth 100000 in
theorem Step_14 (V : Vs) (R : Vr) (u k : Nat) (I : List Fn) (W : Wd) (f : Fr) (g : Fn) (a : Int) (hg : I[f.fn]? = some g) (hx : g.code[f.at']? = some ⟨14, a⟩) (hs : f.stk.length ≤ 64) (hl : f.loc.length ≤ 16) (hc : g.code.length ≤ 1000000) (hW : W.tab.WF) (hh : W.heap.length = 64) (ha : 0 ≤ a) : callT Tryz.prog 101 [.at 2007 R.r 0] ⟨[], rsH V R u k I ⟨W, f, 1, 0, 0⟩⟩ (fun r h => ∃ u' k', r = .tup [] ∧ h = rsH V R u' k' I (stepX ⟨14, a⟩ W f)) := by
  refine callT_of_body [0, 2, 3, 4, 5, 6, 7, 8, 9, 10, 52, 72, 83, 93, 100, 115, 135, 150, 157, 164, 170, 182, 193, 214] [2007, 2008, 2009, 2010, 2011, 2012, 2001, 2002, 2003, 2004, 2005, 2006] Tryz.func101 rfl (by decide) (by kernel_rfl) rfl ?_
  have hf := rowFn_at hg
  have hi := rowIns_at hx
  obtain ⟨hfl, -⟩ := List.getElem?_eq_some_iff.1 hg
  obtain ⟨hxl, -⟩ := List.getElem?_eq_some_iff.1 hx
  have e1 : IntKind.i64.wrap ((f.at' : Int) + 1) = ((f.at' + 1 : Nat) : Int) := by rw [i64_id (by omega) (by omega)]; rfl
  have w0 : IntKind.i64.wrap 0 = 0 := i64_id (by decide) (by decide)
  have hs1 : (popL f.stk).1.length ≤ 64 := Nat.le_trans (popL_len _) hs
  have hs2 : (popL (popL f.stk).1).1.length ≤ 64 := Nat.le_trans (popL_len _) hs1
  simp only [i64v] at hf hi
  simp [i64v, hf, hi, hfl, hxl, e1, w0]
  refine draw_g [0, 1, 2, 3, 4, 5, 6, 7, 8, 9] 10 [] (by kernel_rfl) (by kernel_rfl) (by kernel_rfl) ?_
  simp [i64v, hf, hi, hfl, hxl, e1, w0]
  refine draw_g [0, 1, 2, 3, 4, 5, 6, 7, 8, 9, 10, 11, 12, 13, 14, 15, 16, 17, 18, 19, 20, 21] 22 [(21, [])] (by kernel_rfl) (by kernel_rfl) (by kernel_rfl) ?_
  simp [i64v, hf, hi, hfl, hxl, e1, w0]
  have em : max a 0 = a := by omega
  intro v3
  refine callT_eq [(2010, 2010), (2011, 2011)] (Pop_T R.s k f.stk hs) ?_
  simp [i64v, e1]
  by_cases h0 : (popL f.stk).2 = 0
  · simp [i64v, e1, stepX, em, h0]
  · simp [i64v, e1, stepX, em, h0]

set_option maxHeartbeats 4000000 in
set_option maxRecDepth 100000 in
theorem Step_17 (V : Vs) (R : Vr) (u k : Nat) (I : List Fn) (W : Wd) (f : Fr) (g : Fn) (a : Int) (hg : I[f.fn]? = some g) (hx : g.code[f.at']? = some ⟨17, a⟩) (hs : f.stk.length ≤ 64) (hl : f.loc.length ≤ 16) (hc : g.code.length ≤ 1000000) (hW : W.tab.WF) (hh : W.heap.length = 64) : callT Tryz.prog 101 [.at 2007 R.r 0] ⟨[], rsH V R u k I ⟨W, f, 1, 0, 0⟩⟩ (fun r h => ∃ u' k', r = .tup [] ∧ h = rsH V R u' k' I (stepX ⟨17, a⟩ W f)) := by
  refine callT_of_body [0, 2, 3, 4, 5, 6, 7, 8, 9, 10, 52, 72, 83, 93, 100, 115, 135, 150, 157, 164, 170, 182, 193, 214] [2007, 2008, 2009, 2010, 2011, 2012, 2001, 2002, 2003, 2004, 2005, 2006] Tryz.func101 rfl (by decide) (by kernel_rfl) rfl ?_
  have hf := rowFn_at hg
  have hi := rowIns_at hx
  obtain ⟨hfl, -⟩ := List.getElem?_eq_some_iff.1 hg
  obtain ⟨hxl, -⟩ := List.getElem?_eq_some_iff.1 hx
  have e1 : IntKind.i64.wrap ((f.at' : Int) + 1) = ((f.at' + 1 : Nat) : Int) := by rw [i64_id (by omega) (by omega)]; rfl
  have w0 : IntKind.i64.wrap 0 = 0 := i64_id (by decide) (by decide)
  have hs1 : (popL f.stk).1.length ≤ 64 := Nat.le_trans (popL_len _) hs
  have hs2 : (popL (popL f.stk).1).1.length ≤ 64 := Nat.le_trans (popL_len _) hs1
  simp only [i64v] at hf hi
  simp [i64v, hf, hi, hfl, hxl, e1, w0]
  refine draw_g [0, 1, 2, 3, 4, 5, 6, 7, 8, 9] 10 [] (by kernel_rfl) (by kernel_rfl) (by kernel_rfl) ?_
  simp [i64v, hf, hi, hfl, hxl, e1, w0]
  refine draw_g [0, 1, 2, 3, 4, 5, 6, 7, 8, 9, 10, 11, 12, 13, 14, 15, 16, 17, 18, 19, 20, 21] 22 [(21, [])] (by kernel_rfl) (by kernel_rfl) (by kernel_rfl) ?_
  simp [i64v, hf, hi, hfl, hxl, e1, w0]
  intro v3
  refine draw_g [0, 1, 2, 3, 4, 5, 6, 7, 8] 9 [(7, [4, 5, 6])] (by kernel_rfl) (by kernel_rfl) (by kernel_rfl) ?_
  simp [i64v, e1]
  refine callT_eq [(2009, 2009), (2010, 2010), (2011, 2011), (2012, 2012)] (Local_T R.f R.s k R.l ⟨f.fn, f.at' + 1, f.stk, f.loc⟩ a hl) ?_
  simp [i64v, e1]
  refine callT_ex [(2010, 2010), (2011, 2011)] (Push_T R.s k f.stk [getLoc f.loc a] hs (by simp)) ?_
  simp [i64v, e1, stepX]

set_option maxHeartbeats 4000000 in
set_option maxRecDepth 100000 in
theorem Step_18 (V : Vs) (R : Vr) (u k : Nat) (I : List Fn) (W : Wd) (f : Fr) (g : Fn) (a : Int) (hg : I[f.fn]? = some g) (hx : g.code[f.at']? = some ⟨18, a⟩) (hs : f.stk.length ≤ 64) (hl : f.loc.length ≤ 16) (hc : g.code.length ≤ 1000000) (hW : W.tab.WF) (hh : W.heap.length = 64) : callT Tryz.prog 101 [.at 2007 R.r 0] ⟨[], rsH V R u k I ⟨W, f, 1, 0, 0⟩⟩ (fun r h => ∃ u' k', r = .tup [] ∧ h = rsH V R u' k' I (stepX ⟨18, a⟩ W f)) := by
  refine callT_of_body [0, 2, 3, 4, 5, 6, 7, 8, 9, 10, 52, 72, 83, 93, 100, 115, 135, 150, 157, 164, 170, 182, 193, 214] [2007, 2008, 2009, 2010, 2011, 2012, 2001, 2002, 2003, 2004, 2005, 2006] Tryz.func101 rfl (by decide) (by kernel_rfl) rfl ?_
  have hf := rowFn_at hg
  have hi := rowIns_at hx
  obtain ⟨hfl, -⟩ := List.getElem?_eq_some_iff.1 hg
  obtain ⟨hxl, -⟩ := List.getElem?_eq_some_iff.1 hx
  have e1 : IntKind.i64.wrap ((f.at' : Int) + 1) = ((f.at' + 1 : Nat) : Int) := by rw [i64_id (by omega) (by omega)]; rfl
  have w0 : IntKind.i64.wrap 0 = 0 := i64_id (by decide) (by decide)
  have hs1 : (popL f.stk).1.length ≤ 64 := Nat.le_trans (popL_len _) hs
  have hs2 : (popL (popL f.stk).1).1.length ≤ 64 := Nat.le_trans (popL_len _) hs1
  simp only [i64v] at hf hi
  simp [i64v, hf, hi, hfl, hxl, e1, w0]
  refine draw_g [0, 1, 2, 3, 4, 5, 6, 7, 8, 9] 10 [] (by kernel_rfl) (by kernel_rfl) (by kernel_rfl) ?_
  simp [i64v, hf, hi, hfl, hxl, e1, w0]
  refine draw_g [0, 1, 2, 3, 4, 5, 6, 7, 8, 9, 10, 11, 12, 13, 14, 15, 16, 17, 18, 19, 20, 21] 22 [(21, [])] (by kernel_rfl) (by kernel_rfl) (by kernel_rfl) ?_
  simp [i64v, hf, hi, hfl, hxl, e1, w0]
  intro v3
  refine draw_g [0, 1, 2, 3, 4, 5, 6, 7] 8 [(7, [3, 4, 5, 6])] (by kernel_rfl) (by kernel_rfl) (by kernel_rfl) ?_
  simp [i64v, e1]
  refine callT_eq [(2010, 2010), (2011, 2011)] (Pop_T R.s k f.stk hs) ?_
  simp [i64v, e1]
  refine callT_eq [(2009, 2009), (2010, 2010), (2011, 2011), (2012, 2012)] (SetLocal_T R.f R.s k R.l ⟨f.fn, f.at' + 1, (popL f.stk).1, f.loc⟩ a (popL f.stk).2 hl) ?_
  simp [i64v, e1, stepX]

set_option maxHeartbeats 4000000 in
set_option maxRecDepth 100000 in
theorem Step_21 (V : Vs) (R : Vr) (u k : Nat) (I : List Fn) (W : Wd) (f : Fr) (g : Fn) (a : Int) (hg : I[f.fn]? = some g) (hx : g.code[f.at']? = some ⟨21, a⟩) (hs : f.stk.length ≤ 64) (hl : f.loc.length ≤ 16) (hc : g.code.length ≤ 1000000) (hW : W.tab.WF) (hh : W.heap.length = 64) : callT Tryz.prog 101 [.at 2007 R.r 0] ⟨[], rsH V R u k I ⟨W, f, 1, 0, 0⟩⟩ (fun r h => ∃ u' k', r = .tup [] ∧ h = rsH V R u' k' I (stepX ⟨21, a⟩ W f)) := by
  refine callT_of_body [0, 2, 3, 4, 5, 6, 7, 8, 9, 10, 52, 72, 83, 93, 100, 115, 135, 150, 157, 164, 170, 182, 193, 214] [2007, 2008, 2009, 2010, 2011, 2012, 2001, 2002, 2003, 2004, 2005, 2006] Tryz.func101 rfl (by decide) (by kernel_rfl) rfl ?_
  have hf := rowFn_at hg
  have hi := rowIns_at hx
  obtain ⟨hfl, -⟩ := List.getElem?_eq_some_iff.1 hg
  obtain ⟨hxl, -⟩ := List.getElem?_eq_some_iff.1 hx
  have e1 : IntKind.i64.wrap ((f.at' : Int) + 1) = ((f.at' + 1 : Nat) : Int) := by rw [i64_id (by omega) (by omega)]; rfl
  have w0 : IntKind.i64.wrap 0 = 0 := i64_id (by decide) (by decide)
  have hs1 : (popL f.stk).1.length ≤ 64 := Nat.le_trans (popL_len _) hs
  have hs2 : (popL (popL f.stk).1).1.length ≤ 64 := Nat.le_trans (popL_len _) hs1
  simp only [i64v] at hf hi
  simp [i64v, hf, hi, hfl, hxl, e1, w0]
  refine draw_g [0, 1, 2, 3, 4, 5, 6, 7, 8, 9] 10 [] (by kernel_rfl) (by kernel_rfl) (by kernel_rfl) ?_
  simp [i64v, hf, hi, hfl, hxl, e1, w0]
  refine draw_g [0, 1, 2, 3, 4, 5, 6, 7, 8, 9, 10, 11, 12, 13, 14, 15, 16, 17, 18, 19, 20, 21] 22 [(21, [])] (by kernel_rfl) (by kernel_rfl) (by kernel_rfl) ?_
  simp [i64v, hf, hi, hfl, hxl, e1, w0]
  intro v3
  refine draw_g [0, 1, 2, 3, 4, 5, 6, 7, 8, 9, 10, 11, 12, 13, 14, 15, 16, 17] 18 [(15, [11, 12, 13, 14]), (16, [4, 5, 6, 7, 8, 9, 10, 11, 12, 13, 14, 15])] (by kernel_rfl) (by kernel_rfl) (by kernel_rfl) ?_
  simp [i64v, e1]
  refine callT_eq [(2010, 2010), (2011, 2011)] (Pop_T R.s k f.stk hs) ?_
  simp [i64v, e1]
  refine callT_eq [(2006, 2006)] (Below_T V.d W.dice (popL f.stk).2) ?_
  simp [i64v, e1]
  refine callT_ex [(2010, 2010), (2011, 2011)] (Push_T R.s k (popL f.stk).1 [(below W.dice (popL f.stk).2).2] hs1 (by simp)) ?_
  simp [i64v, e1, stepX]
end Go.Proofs.YtnkdkajllmopaaaGreat.TL
