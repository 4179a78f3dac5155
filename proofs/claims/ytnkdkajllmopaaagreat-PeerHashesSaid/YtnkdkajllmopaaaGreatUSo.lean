/- One step of the machine: returns, the heap, the host, ops of two. -/
import Derived.Test.YtnkdkajllmopaaaGreatUSt
namespace Go.Proofs.YtnkdkajllmopaaaGreat.TL
open Go
set_option linter.unusedVariables false
set_option linter.unusedSimpArgs false

theorem hostArgs_eq {a : Int} (h0 : 0 ≤ a) (h7 : a < 7) : (if a < 0 ∨ 7 ≤ a then -1 else ([3, 1, 2, 3, 0, 1, 0] : List Int)[a.toNat]?.getD 0) = (hostArgs a : Int) := by
  have hn : a = 0 ∨ a = 1 ∨ a = 2 ∨ a = 3 ∨ a = 4 ∨ a = 5 ∨ a = 6 := by omega
  rcases hn with rfl | rfl | rfl | rfl | rfl | rfl | rfl <;> rfl

set_option maxHeartbeats 4000000 in
set_option maxRecDepth 100000 in
theorem Ret_T (V : Vs) (R : Vr) (u k : Nat) (I : List Fn) (W : Wd) (f : Fr) (n : Int) : callT Tryz.prog 125 [.at 2007 R.r 0, i64v n] ⟨[], rsH V R u k I ⟨W, f, 1, 0, 0⟩⟩ (fun r h => r = .tup [] ∧ h = rsH V R u k I ⟨W, f, 0, 0, n⟩) := by
  refine callT_of_body [0, 1, 23] [2007, 2008, 2009, 2010, 2011, 2012, 2001, 2002, 2003, 2004, 2005, 2006] Tryz.func125 rfl (by decide) (by kernel_rfl) rfl ?_
  have w0 : IntKind.i64.wrap 0 = 0 := i64_id (by decide) (by decide)
  simp [i64v, w0]
  refine draw_g [0, 1, 2, 3, 4, 5, 6, 7, 8, 9, 10, 11] 12 [] (by kernel_rfl) (by kernel_rfl) (by kernel_rfl) ?_
  simp [i64v, w0]

set_option maxHeartbeats 4000000 in
set_option maxRecDepth 100000 in
theorem Other_16 (V : Vs) (R : Vr) (u k : Nat) (I : List Fn) (W : Wd) (f : Fr) (a : Int) (hs : f.stk.length ≤ 64) (hW : W.tab.WF) (hh : W.heap.length = 64) : callT Tryz.prog 118 [.at 2007 R.r 0, .at 2009 R.f 0, .agg [.v (.int .u8 16), i64v a]] ⟨[], rsH V R u k I ⟨W, f, 1, 0, 0⟩⟩ (fun r h => ∃ u' k', r = .tup [] ∧ h = rsH V R u' k' I (⟨W, ⟨f.fn, f.at', (popL f.stk).1, f.loc⟩, 0, 0, (popL f.stk).2⟩)) := by
  refine callT_of_body [0, 1, 2, 5, 6, 7, 9, 10, 11, 12, 13, 15, 16, 18, 19, 26, 67, 76, 95, 106, 128, 132, 160] [2007, 2008, 2009, 2010, 2011, 2012, 2001, 2002, 2003, 2004, 2005, 2006] Tryz.func118 rfl (by decide) (by kernel_rfl) rfl ?_
  have hs1 : (popL f.stk).1.length ≤ 64 := Nat.le_trans (popL_len _) hs
  have hs2 : (popL (popL f.stk).1).1.length ≤ 64 := Nat.le_trans (popL_len _) hs1
  simp [i64v]
  intro v5
  refine callT_eq [(2010, 2010), (2011, 2011)] (Pop_T R.s k f.stk hs) ?_
  simp [i64v]
  refine callT_eqi [(2007, 2007), (2008, 2008), (2009, 2009), (2010, 2010), (2011, 2011), (2012, 2012), (2001, 2001), (2002, 2002), (2003, 2003), (2004, 2004), (2005, 2005), (2006, 2006)] (Ret_T V R u k I W ⟨f.fn, f.at', (popL f.stk).1, f.loc⟩ (popL f.stk).2) ?_
  simp [i64v]

set_option maxHeartbeats 4000000 in
set_option maxRecDepth 100000 in
theorem Other_19 (V : Vs) (R : Vr) (u k : Nat) (I : List Fn) (W : Wd) (f : Fr) (a : Int) (hs : f.stk.length ≤ 64) (hW : W.tab.WF) (hh : W.heap.length = 64) : callT Tryz.prog 118 [.at 2007 R.r 0, .at 2009 R.f 0, .agg [.v (.int .u8 19), i64v a]] ⟨[], rsH V R u k I ⟨W, f, 1, 0, 0⟩⟩ (fun r h => ∃ u' k', r = .tup [] ∧ h = rsH V R u' k' I (if cellOk (popL f.stk).2 then ⟨W, ⟨f.fn, f.at', pushL (popL f.stk).1 [getC W.heap (popL f.stk).2], f.loc⟩, 1, 0, 0⟩ else ⟨W, ⟨f.fn, f.at', (popL f.stk).1, f.loc⟩, 1, 4, 0⟩)) := by
  refine callT_of_body [0, 1, 2, 5, 6, 7, 9, 10, 11, 12, 13, 15, 16, 18, 19, 26, 67, 76, 95, 106, 128, 132, 160] [2007, 2008, 2009, 2010, 2011, 2012, 2001, 2002, 2003, 2004, 2005, 2006] Tryz.func118 rfl (by decide) (by kernel_rfl) rfl ?_
  have hs1 : (popL f.stk).1.length ≤ 64 := Nat.le_trans (popL_len _) hs
  have hs2 : (popL (popL f.stk).1).1.length ≤ 64 := Nat.le_trans (popL_len _) hs1
  simp [i64v]
  intro v5
  refine draw_g [0, 1, 2, 3, 4, 5, 6, 7, 8, 9, 10, 11, 12, 13, 14, 15, 16] 17 [(11, [7, 8, 9, 10]), (12, [0, 1, 2, 3, 4, 5, 6, 7, 8, 9, 10, 11])] (by kernel_rfl) (by kernel_rfl) (by kernel_rfl) ?_
  simp [i64v]
  refine callT_eq [(2010, 2010), (2011, 2011)] (Pop_T R.s k f.stk hs) ?_
  simp [i64v]
  refine callT_eq [(2005, 2005)] (Get_T V.h W.heap (popL f.stk).2 hh) ?_
  simp [i64v]
  by_cases hk : cellOk (popL f.stk).2 = true
  · simp [i64v, hk]
    intro vb
    refine callT.pre (fn_of (Push_T R.s k (popL f.stk).1 [getC W.heap (popL f.stk).2] hs1 (by simp))) (CLx.frz 104 rfl (CLx.done ?_))
    simp [i64v]
    refine callT_ex [(2010, 2010), (2011, 2011)] (Push_T R.s k (popL f.stk).1 [getC W.heap (popL f.stk).2] hs1 (by simp)) ?_
    simp [i64v]
  · simp [i64v, hk]

set_option maxHeartbeats 4000000 in
set_option maxRecDepth 100000 in
theorem Other_20 (V : Vs) (R : Vr) (u k : Nat) (I : List Fn) (W : Wd) (f : Fr) (a : Int) (hs : f.stk.length ≤ 64) (hW : W.tab.WF) (hh : W.heap.length = 64) : callT Tryz.prog 118 [.at 2007 R.r 0, .at 2009 R.f 0, .agg [.v (.int .u8 20), i64v a]] ⟨[], rsH V R u k I ⟨W, f, 1, 0, 0⟩⟩ (fun r h => ∃ u' k', r = .tup [] ∧ h = rsH V R u' k' I (if cellOk (popL f.stk).2 then ⟨{ W with heap := putC W.heap (popL f.stk).2 (popL (popL f.stk).1).2 }, ⟨f.fn, f.at', (popL (popL f.stk).1).1, f.loc⟩, 1, 0, 0⟩ else ⟨W, ⟨f.fn, f.at', (popL (popL f.stk).1).1, f.loc⟩, 1, 4, 0⟩)) := by
  refine callT_of_body [0, 1, 2, 5, 6, 7, 9, 10, 11, 12, 13, 15, 16, 18, 19, 26, 67, 76, 95, 106, 128, 132, 160] [2007, 2008, 2009, 2010, 2011, 2012, 2001, 2002, 2003, 2004, 2005, 2006] Tryz.func118 rfl (by decide) (by kernel_rfl) rfl ?_
  have hs1 : (popL f.stk).1.length ≤ 64 := Nat.le_trans (popL_len _) hs
  have hs2 : (popL (popL f.stk).1).1.length ≤ 64 := Nat.le_trans (popL_len _) hs1
  simp [i64v]
  intro v5
  refine draw_g [0, 1, 2, 3, 5, 6, 7, 8, 4] 9 [(4, [0, 1, 2, 3])] (by kernel_rfl) (by kernel_rfl) (by kernel_rfl) ?_
  simp [i64v]
  refine callT_eq [(2010, 2010), (2011, 2011)] (Pop_T R.s k f.stk hs) ?_
  simp [i64v]
  refine callT_eq [(2010, 2010), (2011, 2011)] (Pop_T R.s k (popL f.stk).1 hs1) ?_
  simp [i64v]
  refine callT_eq [(2005, 2005)] (Put_T V.h W.heap (popL f.stk).2 (popL (popL f.stk).1).2 hh) ?_
  simp [i64v]
  by_cases hk : cellOk (popL f.stk).2 = true
  · simp [i64v, hk]
  · simp [i64v, hk, putC]

set_option maxHeartbeats 4000000 in
set_option maxRecDepth 100000 in
theorem Other_22 (V : Vs) (R : Vr) (u k : Nat) (I : List Fn) (W : Wd) (f : Fr) (a : Int) (hs : f.stk.length ≤ 64) (hW : W.tab.WF) (hh : W.heap.length = 64) (h0 : 0 ≤ a) (h7 : a < 7) (hk : hostArgs a ≤ f.stk.length) : callT Tryz.prog 118 [.at 2007 R.r 0, .at 2009 R.f 0, .agg [.v (.int .u8 22), i64v a]] ⟨[], rsH V R u k I ⟨W, f, 1, 0, 0⟩⟩ (fun r h => ∃ u' k', r = .tup [] ∧ h = rsH V R u' k' I (if (W.do a (f.stk.drop (f.stk.length - hostArgs a))).2.2 then ⟨(W.do a (f.stk.drop (f.stk.length - hostArgs a))).1, ⟨f.fn, f.at', pushL (f.stk.take (f.stk.length - hostArgs a)) [(W.do a (f.stk.drop (f.stk.length - hostArgs a))).2.1], f.loc⟩, 1, 0, 0⟩ else ⟨(W.do a (f.stk.drop (f.stk.length - hostArgs a))).1, ⟨f.fn, f.at', f.stk.take (f.stk.length - hostArgs a), f.loc⟩, 1, 5, 0⟩)) := by
  refine callT_of_body [0, 1, 2, 5, 6, 7, 9, 10, 11, 12, 13, 15, 16, 18, 19, 26, 67, 76, 95, 106, 128, 132, 160] [2007, 2008, 2009, 2010, 2011, 2012, 2001, 2002, 2003, 2004, 2005, 2006] Tryz.func118 rfl (by decide) (by kernel_rfl) rfl ?_
  have hs1 : (popL f.stk).1.length ≤ 64 := Nat.le_trans (popL_len _) hs
  have hs2 : (popL (popL f.stk).1).1.length ≤ 64 := Nat.le_trans (popL_len _) hs1
  simp [i64v]
  intro v5
  have hA : (if a < 0 ∨ 7 ≤ a then -1 else ([3, 1, 2, 3, 0, 1, 0] : List Int)[a.toNat]?.getD 0) = (hostArgs a : Int) := hostArgs_eq h0 h7
  have hL : (f.stk.drop (f.stk.length - hostArgs a)).length = hostArgs a := by simp; omega
  have hD := Do_T V u I W a (f.stk.drop (f.stk.length - hostArgs a)) hW h0 h7 hL
  rw [hL] at hD
  refine draw_g [0, 1, 2, 3, 4, 5, 6, 7, 8, 9, 10, 11] 12 [(6, [4, 5]), (7, [0, 1, 2, 3, 4, 5, 6])] (by kernel_rfl) (by kernel_rfl) (by kernel_rfl) ?_
  simp [i64v]
  have hHA := HostArgs_T a
  rw [hA] at hHA
  refine callT_eq [] hHA ?_
  simp [i64v]
  refine callT_eq [(2010, 2010), (2011, 2011)] (Take_T R.s k f.stk (hostArgs a) hk hs) ?_
  simp [i64v]
  generalize hd : W.do a (f.stk.drop (f.stk.length - hostArgs a)) = d at hD ⊢
  obtain ⟨W', x, ok⟩ := d
  refine draw_g [0, 1, 2, 3, 4, 5, 6, 7, 8, 9, 10, 11, 12, 13, 14] 15 [(10, [0, 1, 2, 3, 4, 5, 6, 7, 8, 9])] (by kernel_rfl) (by kernel_rfl) (by kernel_rfl) ?_
  simp [i64v]
  refine callT_ex [(2001, 2001), (2002, 2002), (2003, 2003), (2004, 2004), (2005, 2005), (2006, 2006)] hD ?_
  simp [i64v]
  intro u'
  cases ok with
  | false => simp
  | true =>
    simp [i64v]
    intro vb
    refine callT.pre (fn_of (Push_T R.s k (f.stk.take (f.stk.length - hostArgs a)) [x] (by simp; omega) (by simp))) (CLx.frz 169 rfl (CLx.done ?_))
    simp [i64v]
    refine callT_ex [(2010, 2010), (2011, 2011)] (Push_T R.s k (f.stk.take (f.stk.length - hostArgs a)) [x] (by simp; omega) (by simp)) ?_
    simp [i64v]

set_option maxHeartbeats 4000000 in
set_option maxRecDepth 100000 in
theorem Step_two (V : Vs) (R : Vr) (u k : Nat) (I : List Fn) (W : Wd) (f : Fr) (g : Fn) (a : Int) (o : Int) (hg : I[f.fn]? = some g) (hx : g.code[f.at']? = some ⟨o, a⟩) (hs : f.stk.length ≤ 64) (hl : f.loc.length ≤ 16) (hc : g.code.length ≤ 1000000) (hW : W.tab.WF) (hh : W.heap.length = 64) (h1 : o ≠ 1) (h2 : o ≠ 2) (h3 : o ≠ 3) (h4 : o ≠ 4) (h12 : o ≠ 12) (h13 : o ≠ 13) (h14 : o ≠ 14) (h17 : o ≠ 17) (h18 : o ≠ 18) (h21 : o ≠ 21) (h15 : o ≠ 15) (h16 : o ≠ 16) (h19 : o ≠ 19) (h20 : o ≠ 20) (h22 : o ≠ 22) : callT Tryz.prog 101 [.at 2007 R.r 0] ⟨[], rsH V R u k I ⟨W, f, 1, 0, 0⟩⟩ (fun r h => ∃ u' k', r = .tup [] ∧ h = rsH V R u' k' I (stepX ⟨o, a⟩ W f)) := by
  refine callT_of_body [0, 2, 3, 4, 5, 6, 7, 8, 9, 10, 52, 72, 83, 93, 100, 115, 135, 150, 157, 164, 170, 182, 193, 214] [2007, 2008, 2009, 2010, 2011, 2012, 2001, 2002, 2003, 2004, 2005, 2006] Tryz.func101 rfl (by decide) (by kernel_rfl) rfl ?_
  have hf := rowFn_at hg
  have hi := rowIns_at hx
  obtain ⟨hfl, -⟩ := List.getElem?_eq_some_iff.1 hg
  obtain ⟨hxl, -⟩ := List.getElem?_eq_some_iff.1 hx
  have e1 : IntKind.i64.wrap ((f.at' : Int) + 1) = ((f.at' + 1 : Nat) : Int) := by rw [i64_id (by omega) (by omega)]; rfl
  have w0 : IntKind.i64.wrap 0 = 0 := i64_id (by decide) (by decide)
  have hs1 : (popL f.stk).1.length ≤ 64 := Nat.le_trans (popL_len _) hs
  have hs2 : (popL (popL f.stk).1).1.length ≤ 64 := Nat.le_trans (popL_len _) hs1
  simp only [i64v] at hf hi
  simp [i64v, hf, hi, hfl, hxl, e1, w0, h1, h2, h3, h4, h12, h13, h14, h17, h18, h21, h15, h16, h19, h20, h22]
  refine draw_g [0, 1, 2, 3, 4, 5, 6, 7, 8, 9] 10 [] (by kernel_rfl) (by kernel_rfl) (by kernel_rfl) ?_
  simp [i64v, hf, hi, hfl, hxl, e1, w0, h1, h2, h3, h4, h12, h13, h14, h17, h18, h21, h15, h16, h19, h20, h22]
  refine draw_g [0, 1, 2, 3, 4, 5, 6, 7, 8, 9, 10, 11, 12, 13, 14, 15, 16, 17, 18, 19, 20, 21] 22 [(21, [])] (by kernel_rfl) (by kernel_rfl) (by kernel_rfl) ?_
  simp [i64v, hf, hi, hfl, hxl, e1, w0, h1, h2, h3, h4, h12, h13, h14, h17, h18, h21, h15, h16, h19, h20, h22]
  intro v3
  refine draw_g [0, 1, 2, 3, 5, 6, 7, 8, 4] 9 [(4, [0, 1, 2, 3])] (by kernel_rfl) (by kernel_rfl) (by kernel_rfl) ?_
  simp [i64v, e1]
  refine callT_eq [(2010, 2010), (2011, 2011)] (Pop_T R.s k f.stk hs) ?_
  simp [i64v, e1]
  refine callT_eq [(2010, 2010), (2011, 2011)] (Pop_T R.s k (popL f.stk).1 hs1) ?_
  simp [i64v, e1]
  refine callT_eq [] (Two_T o (popL (popL f.stk).1).2 (popL f.stk).2) ?_
  simp [i64v, e1]
  by_cases hk : (two o (popL (popL f.stk).1).2 (popL f.stk).2).2 = true
  · simp [i64v, e1, hk]
    intro vb
    refine callT.pre (fn_of (Push_T R.s k (popL (popL f.stk).1).1 [(two o (popL (popL f.stk).1).2 (popL f.stk).2).1] hs2 (by simp))) (CLx.frz 81 rfl (CLx.done ?_))
    simp [i64v, e1]
    refine callT_ex [(2010, 2010), (2011, 2011)] (Push_T R.s k (popL (popL f.stk).1).1 [(two o (popL (popL f.stk).1).2 (popL f.stk).2).1] hs2 (by simp)) ?_
    simp [i64v, e1, stepX, hk, h1, h2, h3, h4, h12, h13, h14, h17, h18, h21, h15, h16, h19, h20, h22]
  · simp [i64v, e1, hk, stepX, h1, h2, h3, h4, h12, h13, h14, h17, h18, h21, h15, h16, h19, h20, h22]

set_option maxHeartbeats 4000000 in
set_option maxRecDepth 100000 in
theorem Step_16 (V : Vs) (R : Vr) (u k : Nat) (I : List Fn) (W : Wd) (f : Fr) (g : Fn) (a : Int) (hg : I[f.fn]? = some g) (hx : g.code[f.at']? = some ⟨16, a⟩) (hs : f.stk.length ≤ 64) (hl : f.loc.length ≤ 16) (hc : g.code.length ≤ 1000000) (hW : W.tab.WF) (hh : W.heap.length = 64) : callT Tryz.prog 101 [.at 2007 R.r 0] ⟨[], rsH V R u k I ⟨W, f, 1, 0, 0⟩⟩ (fun r h => ∃ u' k', r = .tup [] ∧ h = rsH V R u' k' I (stepX ⟨16, a⟩ W f)) := by
  refine callT_of_body [0, 2, 3, 4, 5, 6, 7, 8, 9, 10, 52, 72, 83, 93, 100, 115, 135, 150, 157, 164, 170, 182, 193, 214] [2007, 2008, 2009, 2010, 2011, 2012, 2001, 2002, 2003, 2004, 2005, 2006] Tryz.func101 rfl (by decide) (by kernel_rfl) rfl ?_
  have hf := rowFn_at hg
  have hi := rowIns_at hx
  obtain ⟨hfl, -⟩ := List.getElem?_eq_some_iff.1 hg
  obtain ⟨hxl, -⟩ := List.getElem?_eq_some_iff.1 hx
  have e1 : IntKind.i64.wrap ((f.at' : Int) + 1) = ((f.at' + 1 : Nat) : Int) := by rw [i64_id (by omega) (by omega)]; rfl
  have w0 : IntKind.i64.wrap 0 = 0 := i64_id (by decide) (by decide)
  have hs1 : (popL f.stk).1.length ≤ 64 := Nat.le_trans (popL_len _) hs
  have hs2 : (popL (popL f.stk).1).1.length ≤ 64 := Nat.le_trans (popL_len _) hs1
  simp only [i64v] at hf hi
  simp [i64v, hf, hi, hfl, hxl, e1, w0]
  refine draw_g [0, 1, 2, 3, 4, 5, 6, 7, 8, 9] 10 [] (by kernel_rfl) (by kernel_rfl) (by kernel_rfl) ?_
  simp [i64v, hf, hi, hfl, hxl, e1, w0]
  refine draw_g [0, 1, 2, 3, 4, 5, 6, 7, 8, 9, 10, 11, 12, 13, 14, 15, 16, 17, 18, 19, 20, 21] 22 [(21, [])] (by kernel_rfl) (by kernel_rfl) (by kernel_rfl) ?_
  simp [i64v, hf, hi, hfl, hxl, e1, w0]
  intro v3
  refine callT_exi2 [(2007, 2007), (2008, 2008), (2009, 2009), (2010, 2010), (2011, 2011), (2012, 2012), (2001, 2001), (2002, 2002), (2003, 2003), (2004, 2004), (2005, 2005), (2006, 2006)] (Other_16 V R u k I W ⟨f.fn, f.at' + 1, f.stk, f.loc⟩ a hs hW hh) ?_
  simp [i64v, e1, stepX]

set_option maxHeartbeats 4000000 in
set_option maxRecDepth 100000 in
theorem Step_19 (V : Vs) (R : Vr) (u k : Nat) (I : List Fn) (W : Wd) (f : Fr) (g : Fn) (a : Int) (hg : I[f.fn]? = some g) (hx : g.code[f.at']? = some ⟨19, a⟩) (hs : f.stk.length ≤ 64) (hl : f.loc.length ≤ 16) (hc : g.code.length ≤ 1000000) (hW : W.tab.WF) (hh : W.heap.length = 64) : callT Tryz.prog 101 [.at 2007 R.r 0] ⟨[], rsH V R u k I ⟨W, f, 1, 0, 0⟩⟩ (fun r h => ∃ u' k', r = .tup [] ∧ h = rsH V R u' k' I (stepX ⟨19, a⟩ W f)) := by
  refine callT_of_body [0, 2, 3, 4, 5, 6, 7, 8, 9, 10, 52, 72, 83, 93, 100, 115, 135, 150, 157, 164, 170, 182, 193, 214] [2007, 2008, 2009, 2010, 2011, 2012, 2001, 2002, 2003, 2004, 2005, 2006] Tryz.func101 rfl (by decide) (by kernel_rfl) rfl ?_
  have hf := rowFn_at hg
  have hi := rowIns_at hx
  obtain ⟨hfl, -⟩ := List.getElem?_eq_some_iff.1 hg
  obtain ⟨hxl, -⟩ := List.getElem?_eq_some_iff.1 hx
  have e1 : IntKind.i64.wrap ((f.at' : Int) + 1) = ((f.at' + 1 : Nat) : Int) := by rw [i64_id (by omega) (by omega)]; rfl
  have w0 : IntKind.i64.wrap 0 = 0 := i64_id (by decide) (by decide)
  have hs1 : (popL f.stk).1.length ≤ 64 := Nat.le_trans (popL_len _) hs
  have hs2 : (popL (popL f.stk).1).1.length ≤ 64 := Nat.le_trans (popL_len _) hs1
  simp only [i64v] at hf hi
  simp [i64v, hf, hi, hfl, hxl, e1, w0]
  refine draw_g [0, 1, 2, 3, 4, 5, 6, 7, 8, 9] 10 [] (by kernel_rfl) (by kernel_rfl) (by kernel_rfl) ?_
  simp [i64v, hf, hi, hfl, hxl, e1, w0]
  refine draw_g [0, 1, 2, 3, 4, 5, 6, 7, 8, 9, 10, 11, 12, 13, 14, 15, 16, 17, 18, 19, 20, 21] 22 [(21, [])] (by kernel_rfl) (by kernel_rfl) (by kernel_rfl) ?_
  simp [i64v, hf, hi, hfl, hxl, e1, w0]
  intro v3
  refine callT_exi2 [(2007, 2007), (2008, 2008), (2009, 2009), (2010, 2010), (2011, 2011), (2012, 2012), (2001, 2001), (2002, 2002), (2003, 2003), (2004, 2004), (2005, 2005), (2006, 2006)] (Other_19 V R u k I W ⟨f.fn, f.at' + 1, f.stk, f.loc⟩ a hs hW hh) ?_
  simp [i64v, e1, stepX]

set_option maxHeartbeats 4000000 in
set_option maxRecDepth 100000 in
theorem Step_20 (V : Vs) (R : Vr) (u k : Nat) (I : List Fn) (W : Wd) (f : Fr) (g : Fn) (a : Int) (hg : I[f.fn]? = some g) (hx : g.code[f.at']? = some ⟨20, a⟩) (hs : f.stk.length ≤ 64) (hl : f.loc.length ≤ 16) (hc : g.code.length ≤ 1000000) (hW : W.tab.WF) (hh : W.heap.length = 64) : callT Tryz.prog 101 [.at 2007 R.r 0] ⟨[], rsH V R u k I ⟨W, f, 1, 0, 0⟩⟩ (fun r h => ∃ u' k', r = .tup [] ∧ h = rsH V R u' k' I (stepX ⟨20, a⟩ W f)) := by
  refine callT_of_body [0, 2, 3, 4, 5, 6, 7, 8, 9, 10, 52, 72, 83, 93, 100, 115, 135, 150, 157, 164, 170, 182, 193, 214] [2007, 2008, 2009, 2010, 2011, 2012, 2001, 2002, 2003, 2004, 2005, 2006] Tryz.func101 rfl (by decide) (by kernel_rfl) rfl ?_
  have hf := rowFn_at hg
  have hi := rowIns_at hx
  obtain ⟨hfl, -⟩ := List.getElem?_eq_some_iff.1 hg
  obtain ⟨hxl, -⟩ := List.getElem?_eq_some_iff.1 hx
  have e1 : IntKind.i64.wrap ((f.at' : Int) + 1) = ((f.at' + 1 : Nat) : Int) := by rw [i64_id (by omega) (by omega)]; rfl
  have w0 : IntKind.i64.wrap 0 = 0 := i64_id (by decide) (by decide)
  have hs1 : (popL f.stk).1.length ≤ 64 := Nat.le_trans (popL_len _) hs
  have hs2 : (popL (popL f.stk).1).1.length ≤ 64 := Nat.le_trans (popL_len _) hs1
  simp only [i64v] at hf hi
  simp [i64v, hf, hi, hfl, hxl, e1, w0]
  refine draw_g [0, 1, 2, 3, 4, 5, 6, 7, 8, 9] 10 [] (by kernel_rfl) (by kernel_rfl) (by kernel_rfl) ?_
  simp [i64v, hf, hi, hfl, hxl, e1, w0]
  refine draw_g [0, 1, 2, 3, 4, 5, 6, 7, 8, 9, 10, 11, 12, 13, 14, 15, 16, 17, 18, 19, 20, 21] 22 [(21, [])] (by kernel_rfl) (by kernel_rfl) (by kernel_rfl) ?_
  simp [i64v, hf, hi, hfl, hxl, e1, w0]
  intro v3
  refine callT_exi2 [(2007, 2007), (2008, 2008), (2009, 2009), (2010, 2010), (2011, 2011), (2012, 2012), (2001, 2001), (2002, 2002), (2003, 2003), (2004, 2004), (2005, 2005), (2006, 2006)] (Other_20 V R u k I W ⟨f.fn, f.at' + 1, f.stk, f.loc⟩ a hs hW hh) ?_
  simp [i64v, e1, stepX]

set_option maxHeartbeats 4000000 in
set_option maxRecDepth 100000 in
theorem Step_22 (V : Vs) (R : Vr) (u k : Nat) (I : List Fn) (W : Wd) (f : Fr) (g : Fn) (a : Int) (hg : I[f.fn]? = some g) (hx : g.code[f.at']? = some ⟨22, a⟩) (hs : f.stk.length ≤ 64) (hl : f.loc.length ≤ 16) (hc : g.code.length ≤ 1000000) (hW : W.tab.WF) (hh : W.heap.length = 64) (h0 : 0 ≤ a) (h7 : a < 7) (hk : hostArgs a ≤ f.stk.length) : callT Tryz.prog 101 [.at 2007 R.r 0] ⟨[], rsH V R u k I ⟨W, f, 1, 0, 0⟩⟩ (fun r h => ∃ u' k', r = .tup [] ∧ h = rsH V R u' k' I (stepX ⟨22, a⟩ W f)) := by
  refine callT_of_body [0, 2, 3, 4, 5, 6, 7, 8, 9, 10, 52, 72, 83, 93, 100, 115, 135, 150, 157, 164, 170, 182, 193, 214] [2007, 2008, 2009, 2010, 2011, 2012, 2001, 2002, 2003, 2004, 2005, 2006] Tryz.func101 rfl (by decide) (by kernel_rfl) rfl ?_
  have hf := rowFn_at hg
  have hi := rowIns_at hx
  obtain ⟨hfl, -⟩ := List.getElem?_eq_some_iff.1 hg
  obtain ⟨hxl, -⟩ := List.getElem?_eq_some_iff.1 hx
  have e1 : IntKind.i64.wrap ((f.at' : Int) + 1) = ((f.at' + 1 : Nat) : Int) := by rw [i64_id (by omega) (by omega)]; rfl
  have w0 : IntKind.i64.wrap 0 = 0 := i64_id (by decide) (by decide)
  have hs1 : (popL f.stk).1.length ≤ 64 := Nat.le_trans (popL_len _) hs
  have hs2 : (popL (popL f.stk).1).1.length ≤ 64 := Nat.le_trans (popL_len _) hs1
  simp only [i64v] at hf hi
  simp [i64v, hf, hi, hfl, hxl, e1, w0]
  refine draw_g [0, 1, 2, 3, 4, 5, 6, 7, 8, 9] 10 [] (by kernel_rfl) (by kernel_rfl) (by kernel_rfl) ?_
  simp [i64v, hf, hi, hfl, hxl, e1, w0]
  refine draw_g [0, 1, 2, 3, 4, 5, 6, 7, 8, 9, 10, 11, 12, 13, 14, 15, 16, 17, 18, 19, 20, 21] 22 [(21, [])] (by kernel_rfl) (by kernel_rfl) (by kernel_rfl) ?_
  simp [i64v, hf, hi, hfl, hxl, e1, w0]
  intro v3
  refine callT_exi2 [(2007, 2007), (2008, 2008), (2009, 2009), (2010, 2010), (2011, 2011), (2012, 2012), (2001, 2001), (2002, 2002), (2003, 2003), (2004, 2004), (2005, 2005), (2006, 2006)] (Other_22 V R u k I W ⟨f.fn, f.at' + 1, f.stk, f.loc⟩ a hs hW hh h0 h7 hk) ?_
  simp [i64v, e1, stepX]
end Go.Proofs.YtnkdkajllmopaaaGreat.TL
