/- Code whose stack never runs out: a table of depths; one step keeps it. -/
import Derived.Test.YtnkdkajllmopaaaGreatUSo
import Derived.Test.YtnkdkajllmopaaaGreatURec
import Derived.Test.YtnkdkajllmopaaaGreatUOrd
/- The machine's Run. -/
/- A world's run of a function. -/
/- A world's turn. -/
/- What a world's turn keeps: numbers in their ranges. -/
namespace Go.Proofs.YtnkdkajllmopaaaGreat.TL
open Go
set_option linter.unusedVariables false
set_option linter.unusedSimpArgs false

/-- What an instruction takes from the stack, what it leaves. -/
def eff (x : Ins) : Nat × Nat :=
  if x.op = 1 then (0, 1) else if x.op = 2 then (1, 0) else if x.op = 3 then (1, 2) else if x.op = 4 then (2, 2) else if x.op = 12 then (1, 1) else if x.op = 13 then (0, 0) else if x.op = 14 then (1, 0)
  else if x.op = 17 then (0, 1) else if x.op = 18 then (1, 0) else if x.op = 21 then (1, 1) else if x.op = 16 then (1, 0) else if x.op = 19 then (1, 1) else if x.op = 20 then (2, 0) else if x.op = 22 then (hostArgs x.arg, 1) else (2, 1)
/-- Where it goes on. -/
def nexts (x : Ins) (k : Nat) : List Nat := if x.op = 16 then [] else if x.op = 13 then [x.arg.toNat] else if x.op = 14 then [k + 1, x.arg.toNat] else [k + 1]
/-- Its argument is one that may be; no call. -/
def soundI (x : Ins) : Bool := !(decide (x.op = 15)) && (!(decide (x.op = 13 ∨ x.op = 14)) || decide (0 ≤ x.arg)) && (!(decide (x.op = 22)) || (decide (0 ≤ x.arg) && decide (x.arg < 7)))
def okAt (code : List Ins) (D : List (Option Nat)) (k : Nat) : Bool :=
  match D[k]? with
  | some (some d) => match code[k]? with
    | some x => soundI x && decide ((eff x).1 ≤ d) && decide (d - (eff x).1 + (eff x).2 ≤ 64) && (nexts x k).all fun j => decide (D[j]? = some (some (d - (eff x).1 + (eff x).2)))
    | none => false
  | _ => true
def typed (g : Fn) (D : List (Option Nat)) : Bool := decide (D[0]? = some (some 0)) && (List.range D.length).all (okAt g.code D)
/-- Every function of an image has such a table, and is not too long. -/
def Flat (I : List Fn) : Prop := ∀ g ∈ I, g.code.length ≤ 1000000 ∧ 0 ≤ g.args ∧ g.args ≤ g.locs ∧ g.locs ≤ 16 ∧ ∃ D, typed g D = true

theorem typed_at {g : Fn} {D : List (Option Nat)} (h : typed g D = true) {k d : Nat} (hk : D[k]? = some (some d)) :
    ∃ x, g.code[k]? = some x ∧ soundI x = true ∧ (eff x).1 ≤ d ∧ d - (eff x).1 + (eff x).2 ≤ 64 ∧ ∀ j ∈ nexts x k, D[j]? = some (some (d - (eff x).1 + (eff x).2)) := by
  simp only [typed, Bool.and_eq_true, List.all_eq_true] at h
  obtain ⟨hl, -⟩ := List.getElem?_eq_some_iff.1 hk
  have h1 := h.2 k (List.mem_range.2 hl)
  simp only [okAt, hk] at h1
  cases hx : g.code[k]? with
  | none => rw [hx] at h1; simp at h1
  | some x =>
    rw [hx] at h1
    simp only [Bool.and_eq_true, List.all_eq_true, decide_eq_true_eq] at h1
    exact ⟨x, rfl, h1.1.1.1, h1.1.1.2, h1.1.2, h1.2⟩

theorem pushL_fit {s l : List Int} (h : s.length + l.length ≤ 64) : pushL s l = s ++ l := by simp [pushL, h]
theorem popL_one {s : List Int} : (popL s).1.length = s.length - 1 := by simp [popL]
theorem length_setLoc (l : List Int) (n x : Int) : (setLoc l n x).length = l.length := by unfold setLoc; split <;> simp
theorem length_putC (l : List Int) (n x : Int) : (putC l n x).length = l.length := by unfold putC; split <;> simp

/-- What a step keeps. -/
structure StOk (I : List Fn) (S : St) : Prop where
  n1 : S.n ≤ 1
  tr : 0 ≤ S.trap ∧ S.trap ≤ 5
  wf : S.W.tab.WF
  hp : S.W.heap.length = 64
  sk : S.f.stk.length ≤ 64
  lc : S.f.loc.length ≤ 16
  go : S.n = 1 → S.trap = 0 → S.val = 0 ∧ ∃ g D, I[S.f.fn]? = some g ∧ g.code.length ≤ 1000000 ∧ typed g D = true ∧ D[S.f.at']? = some (some S.f.stk.length)

theorem stepX_ok {I : List Fn} {W : Wd} {f : Fr} {g : Fn} {D : List (Option Nat)} {x : Ins} (hW : W.tab.WF) (hh : W.heap.length = 64) (hl : f.loc.length ≤ 16) (hI : I[f.fn]? = some g) (hc : g.code.length ≤ 1000000) (ht : typed g D = true)
    (hs : (eff x).1 ≤ f.stk.length) (h64 : f.stk.length - (eff x).1 + (eff x).2 ≤ 64) (hn : ∀ j ∈ nexts x f.at', D[j]? = some (some (f.stk.length - (eff x).1 + (eff x).2))) : StOk I (stepX x W f) := by
  obtain ⟨d, hd⟩ : ∃ d, d = f.stk.length - (eff x).1 + (eff x).2 := ⟨_, rfl⟩
  rw [← hd] at h64 hn
  have key : ∀ S : St, S.n = 1 → S.trap = 0 → S.val = 0 → S.f.fn = f.fn → S.f.stk.length = d → S.f.at' ∈ nexts x f.at' → S.W.tab.WF → S.W.heap.length = 64 → S.f.loc.length ≤ 16 → StOk I S :=
    fun S k1 k2 k3 k4 k5 k6 k7 k8 k9 => ⟨by omega, by omega, k7, k8, by omega, k9, fun _ _ => ⟨k3, g, D, by rw [k4]; exact hI, hc, ht, by rw [k5]; exact hn _ k6⟩⟩
  by_cases h : x.op = 1
  · simp only [eff, h, if_true, if_false, reduceIte, Int.reduceEq] at hs h64 hd
    rw [show stepX x W f = ⟨W, ⟨f.fn, f.at' + 1, pushL f.stk [x.arg], f.loc⟩, 1, 0, 0⟩ by simp [stepX, h]]
    exact key _ rfl rfl rfl rfl (by rw [pushL_fit (by simp; omega)]; simp; omega) (by simp [nexts, h]) (hW) (hh) (by simp only; exact hl)
  by_cases h : x.op = 2
  · simp only [eff, h, if_true, if_false, reduceIte, Int.reduceEq] at hs h64 hd
    have e1 := popL_one (s := f.stk)
    rw [show stepX x W f = ⟨W, ⟨f.fn, f.at' + 1, (popL f.stk).1, f.loc⟩, 1, 0, 0⟩ by simp [stepX, h]]
    exact key _ rfl rfl rfl rfl (by simp only [e1]; omega) (by simp [nexts, h]) (hW) (hh) (by simp only; exact hl)
  by_cases h : x.op = 3
  · simp only [eff, h, if_true, if_false, reduceIte, Int.reduceEq] at hs h64 hd
    have e1 := popL_one (s := f.stk)
    rw [show stepX x W f = ⟨W, ⟨f.fn, f.at' + 1, pushL (popL f.stk).1 [(popL f.stk).2, (popL f.stk).2], f.loc⟩, 1, 0, 0⟩ by simp [stepX, h]]
    exact key _ rfl rfl rfl rfl (by rw [pushL_fit (by simp [e1]; omega)]; simp [e1]; omega) (by simp [nexts, h]) (hW) (hh) (by simp only; exact hl)
  by_cases h : x.op = 4
  · simp only [eff, h, if_true, if_false, reduceIte, Int.reduceEq] at hs h64 hd
    have e1 := popL_one (s := f.stk)
    have e2 := popL_one (s := (popL f.stk).1)
    rw [show stepX x W f = ⟨W, ⟨f.fn, f.at' + 1, pushL (popL (popL f.stk).1).1 [(popL f.stk).2, (popL (popL f.stk).1).2], f.loc⟩, 1, 0, 0⟩ by simp [stepX, h]]
    exact key _ rfl rfl rfl rfl (by rw [pushL_fit (by simp [e1, e2]; omega)]; simp [e1, e2]; omega) (by simp [nexts, h]) (hW) (hh) (by simp only; exact hl)
  by_cases h : x.op = 12
  · simp only [eff, h, if_true, if_false, reduceIte, Int.reduceEq] at hs h64 hd
    have e1 := popL_one (s := f.stk)
    rw [show stepX x W f = ⟨W, ⟨f.fn, f.at' + 1, pushL (popL f.stk).1 [tru (decide ((popL f.stk).2 = 0))], f.loc⟩, 1, 0, 0⟩ by simp [stepX, h]]
    exact key _ rfl rfl rfl rfl (by rw [pushL_fit (by simp [e1]; omega)]; simp [e1]; omega) (by simp [nexts, h]) (hW) (hh) (by simp only; exact hl)
  by_cases h : x.op = 13
  · simp only [eff, h, if_true, if_false, reduceIte, Int.reduceEq] at hs h64 hd
    rw [show stepX x W f = ⟨W, ⟨f.fn, x.arg.toNat, f.stk, f.loc⟩, 1, 0, 0⟩ by simp [stepX, h]]
    exact key _ rfl rfl rfl rfl (by simp only; omega) (by simp [nexts, h]) (hW) (hh) (by simp only; exact hl)
  by_cases h : x.op = 14
  · simp only [eff, h, if_true, if_false, reduceIte, Int.reduceEq] at hs h64 hd
    have e1 := popL_one (s := f.stk)
    rw [show stepX x W f = ⟨W, ⟨f.fn, if (popL f.stk).2 = 0 then x.arg.toNat else f.at' + 1, (popL f.stk).1, f.loc⟩, 1, 0, 0⟩ by simp [stepX, h]]
    exact key _ rfl rfl rfl rfl (by simp only [e1]; omega) (by by_cases h0 : (popL f.stk).2 = 0 <;> simp [nexts, h, h0]) (hW) (hh) (by simp only; exact hl)
  by_cases h : x.op = 17
  · simp only [eff, h, if_true, if_false, reduceIte, Int.reduceEq] at hs h64 hd
    rw [show stepX x W f = ⟨W, ⟨f.fn, f.at' + 1, pushL f.stk [getLoc f.loc x.arg], f.loc⟩, 1, 0, 0⟩ by simp [stepX, h]]
    exact key _ rfl rfl rfl rfl (by rw [pushL_fit (by simp; omega)]; simp; omega) (by simp [nexts, h]) (hW) (hh) (by simp only; exact hl)
  by_cases h : x.op = 18
  · simp only [eff, h, if_true, if_false, reduceIte, Int.reduceEq] at hs h64 hd
    have e1 := popL_one (s := f.stk)
    rw [show stepX x W f = ⟨W, ⟨f.fn, f.at' + 1, (popL f.stk).1, setLoc f.loc x.arg (popL f.stk).2⟩, 1, 0, 0⟩ by simp [stepX, h]]
    exact key _ rfl rfl rfl rfl (by simp only [e1]; omega) (by simp [nexts, h]) (hW) (hh) (by simp only; exact (by rw [length_setLoc]; exact hl))
  by_cases h : x.op = 21
  · simp only [eff, h, if_true, if_false, reduceIte, Int.reduceEq] at hs h64 hd
    have e1 := popL_one (s := f.stk)
    rw [show stepX x W f = ⟨{ W with dice := (below W.dice (popL f.stk).2).1 }, ⟨f.fn, f.at' + 1, pushL (popL f.stk).1 [(below W.dice (popL f.stk).2).2], f.loc⟩, 1, 0, 0⟩ by simp [stepX, h]]
    exact key _ rfl rfl rfl rfl (by rw [pushL_fit (by simp [e1]; omega)]; simp [e1]; omega) (by simp [nexts, h]) (hW) (hh) (by simp only; exact hl)
  by_cases h : x.op = 16
  · simp only [eff, h, if_true, if_false, reduceIte, Int.reduceEq] at hs h64 hd
    have e1 := popL_one (s := f.stk)
    rw [show stepX x W f = ⟨W, ⟨f.fn, f.at' + 1, (popL f.stk).1, f.loc⟩, 0, 0, (popL f.stk).2⟩ by simp [stepX, h]]
    exact ⟨by simp, by simp, hW, hh, by simp only [e1]; omega, hl, by simp⟩
  by_cases h : x.op = 19
  · simp only [eff, h, if_true, if_false, reduceIte, Int.reduceEq] at hs h64 hd
    have e1 := popL_one (s := f.stk)
    by_cases hk : cellOk (popL f.stk).2 = true
    · rw [show stepX x W f = ⟨W, ⟨f.fn, f.at' + 1, pushL (popL f.stk).1 [getC W.heap (popL f.stk).2], f.loc⟩, 1, 0, 0⟩ by simp [stepX, h, hk]]
      exact key _ rfl rfl rfl rfl (by rw [pushL_fit (by simp [e1]; omega)]; simp [e1]; omega) (by simp [nexts, h]) hW hh hl
    · rw [show stepX x W f = ⟨W, ⟨f.fn, f.at' + 1, (popL f.stk).1, f.loc⟩, 1, 4, 0⟩ by simp [stepX, h, hk]]
      exact ⟨by simp, by simp, hW, hh, by simp only [e1]; omega, hl, by simp⟩
  by_cases h : x.op = 20
  · simp only [eff, h, if_true, if_false, reduceIte, Int.reduceEq] at hs h64 hd
    have e1 := popL_one (s := f.stk)
    have e2 := popL_one (s := (popL f.stk).1)
    by_cases hk : cellOk (popL f.stk).2 = true
    · rw [show stepX x W f = ⟨{ W with heap := putC W.heap (popL f.stk).2 (popL (popL f.stk).1).2 }, ⟨f.fn, f.at' + 1, (popL (popL f.stk).1).1, f.loc⟩, 1, 0, 0⟩ by simp [stepX, h, hk]]
      exact key _ rfl rfl rfl rfl (by simp only [e1, e2]; omega) (by simp [nexts, h]) hW (by simp only; rw [length_putC]; exact hh) hl
    · rw [show stepX x W f = ⟨W, ⟨f.fn, f.at' + 1, (popL (popL f.stk).1).1, f.loc⟩, 1, 4, 0⟩ by simp [stepX, h, hk]]
      exact ⟨by simp, by simp, hW, hh, by simp only [e1, e2]; omega, hl, by simp⟩
  by_cases h : x.op = 22
  · simp only [eff, h, if_true, if_false, reduceIte, Int.reduceEq] at hs h64 hd
    have w1 := Wd.do_WF hW x.arg (f.stk.drop (f.stk.length - hostArgs x.arg))
    have w2 := Wd.do_heap W x.arg (f.stk.drop (f.stk.length - hostArgs x.arg))
    by_cases hk : (W.do x.arg (f.stk.drop (f.stk.length - hostArgs x.arg))).2.2 = true
    · rw [show stepX x W f = ⟨(W.do x.arg (f.stk.drop (f.stk.length - hostArgs x.arg))).1, ⟨f.fn, f.at' + 1, pushL (f.stk.take (f.stk.length - hostArgs x.arg)) [(W.do x.arg (f.stk.drop (f.stk.length - hostArgs x.arg))).2.1], f.loc⟩, 1, 0, 0⟩ by simp [stepX, h, hk]]
      exact key _ rfl rfl rfl rfl (by rw [pushL_fit (by simp; omega)]; simp; omega) (by simp [nexts, h]) w1 (by simp only; rw [w2]; exact hh) hl
    · rw [show stepX x W f = ⟨(W.do x.arg (f.stk.drop (f.stk.length - hostArgs x.arg))).1, ⟨f.fn, f.at' + 1, f.stk.take (f.stk.length - hostArgs x.arg), f.loc⟩, 1, 5, 0⟩ by simp [stepX, h, hk]]
      exact ⟨by simp, by simp, w1, by simp only; rw [w2]; exact hh, by simp; omega, hl, by simp⟩
  rename_i n1 n2 n3 n4 n12 n13 n14 n17 n18 n21 n16 n19 n20
  have n22 := h
  simp only [eff, n1, n2, n3, n4, n12, n13, n14, n17, n18, n21, n16, n19, n20, n22, if_false] at hs h64 hd
  have e1 := popL_one (s := f.stk)
  have e2 := popL_one (s := (popL f.stk).1)
  by_cases hk : (two x.op (popL (popL f.stk).1).2 (popL f.stk).2).2 = true
  · rw [show stepX x W f = ⟨W, ⟨f.fn, f.at' + 1, pushL (popL (popL f.stk).1).1 [(two x.op (popL (popL f.stk).1).2 (popL f.stk).2).1], f.loc⟩, 1, 0, 0⟩ by simp [stepX, n1, n2, n3, n4, n12, n13, n14, n17, n18, n21, n16, n19, n20, n22, hk]]
    exact key _ rfl rfl rfl rfl (by rw [pushL_fit (by simp [e1, e2]; omega)]; simp [e1, e2]; omega) (by simp [nexts, n16, n13, n14]) hW hh hl
  · rw [show stepX x W f = ⟨W, ⟨f.fn, f.at' + 1, (popL (popL f.stk).1).1, f.loc⟩, 1, 1, 0⟩ by simp [stepX, n1, n2, n3, n4, n12, n13, n14, n17, n18, n21, n16, n19, n20, n22, hk]]
    exact ⟨by simp, by simp, hW, hh, by simp only [e1, e2]; omega, hl, by simp⟩

/-- One step of the machine, where it may go on. -/
def stepS (I : List Fn) (S : St) : St := match I[S.f.fn]? with
  | some g => match g.code[S.f.at']? with
    | some x => stepX x S.W S.f
    | none => S
  | none => S
theorem stepS_ok {I : List Fn} {S : St} (h : StOk I S) (h1 : S.n = 1) (h0 : S.trap = 0) : StOk I (stepS I S) := by
  obtain ⟨_, g, D, hg, hc, ht, hd⟩ := h.go h1 h0
  obtain ⟨x, hx, hsd, hs, h64, hn⟩ := typed_at ht hd
  simp only [stepS, hg, hx]
  exact stepX_ok h.wf h.hp h.lc hg hc ht hs h64 hn

theorem Step_T (V : Vs) (R : Vr) (u k : Nat) (I : List Fn) (S : St) (h : StOk I S) (h1 : S.n = 1) (h0 : S.trap = 0) : callT Tryz.prog 101 [.at 2007 R.r 0] ⟨[], rsH V R u k I S⟩ (fun r h => ∃ u' k', r = .tup [] ∧ h = rsH V R u' k' I (stepS I S)) := by
  obtain ⟨hv, g, D, hg, hc, ht, hd⟩ := h.go h1 h0
  obtain ⟨⟨op, a⟩, hx, hsd, hs, h64, hn⟩ := typed_at ht hd
  have e : stepS I S = stepX ⟨op, a⟩ S.W S.f := by simp only [stepS, hg, hx]
  rw [e]
  obtain ⟨W, f, n, trap, val⟩ := S
  simp only at h1 h0 hv hg hx hs h64 hn ⊢
  subst h1 h0 hv
  have hk := h.sk
  have hl := h.lc
  have hW := h.wf
  have hh := h.hp
  simp only at hk hl hW hh
  simp only [soundI, Bool.and_eq_true, Bool.or_eq_true, Bool.not_eq_true', decide_eq_false_iff_not, decide_eq_true_eq] at hsd
  obtain ⟨⟨n15, ha⟩, hb⟩ := hsd
  by_cases h : op = 1
  · subst h; exact Step_1 V R u k I W f g a hg hx hk hl hc hW hh
  by_cases h : op = 2
  · subst h; exact Step_2 V R u k I W f g a hg hx hk hl hc hW hh
  by_cases h : op = 3
  · subst h; exact Step_3 V R u k I W f g a hg hx hk hl hc hW hh
  by_cases h : op = 4
  · subst h; exact Step_4 V R u k I W f g a hg hx hk hl hc hW hh
  by_cases h : op = 12
  · subst h; exact Step_12 V R u k I W f g a hg hx hk hl hc hW hh
  by_cases h : op = 13
  · subst h; exact Step_13 V R u k I W f g a hg hx hk hl hc hW hh (by simpa using ha)
  by_cases h : op = 14
  · subst h; exact Step_14 V R u k I W f g a hg hx hk hl hc hW hh (by simpa using ha)
  by_cases h : op = 17
  · subst h; exact Step_17 V R u k I W f g a hg hx hk hl hc hW hh
  by_cases h : op = 18
  · subst h; exact Step_18 V R u k I W f g a hg hx hk hl hc hW hh
  by_cases h : op = 21
  · subst h; exact Step_21 V R u k I W f g a hg hx hk hl hc hW hh
  by_cases h : op = 16
  · subst h; exact Step_16 V R u k I W f g a hg hx hk hl hc hW hh
  by_cases h : op = 19
  · subst h; exact Step_19 V R u k I W f g a hg hx hk hl hc hW hh
  by_cases h : op = 20
  · subst h; exact Step_20 V R u k I W f g a hg hx hk hl hc hW hh
  by_cases h : op = 22
  · subst h
    have hb' : 0 ≤ a ∧ a < 7 := by simpa using hb
    simp only [eff, if_true, if_false, reduceIte, Int.reduceEq] at hs
    exact Step_22 V R u k I W f g a hg hx hk hl hc hW hh hb'.1 hb'.2 hs
  rename_i n1 n2 n3 n4 n12 n13 n14 n17 n18 n21 n16 n19 n20
  exact Step_two V R u k I W f g a op hg hx hk hl hc hW hh n1 n2 n3 n4 n12 n13 n14 n17 n18 n21 n15 n16 n19 n20 h

/-- A run, with so much fuel: how it ends, how many steps it takes, and is it out of fuel? -/
def runK (I : List Fn) : Nat → St → St × Nat × Bool
  | 0, S => (S, 0, decide (S.n = 1 ∧ S.trap = 0))
  | m + 1, S => if S.n = 1 ∧ S.trap = 0 then ((runK I m (stepS I S)).1, (runK I m (stepS I S)).2.1 + 1, (runK I m (stepS I S)).2.2) else (S, 0, false)
theorem runK_ok {I : List Fn} : ∀ (m : Nat) {S : St}, StOk I S → StOk I (runK I m S).1
  | 0, S, h => h
  | m + 1, S, h => by
    simp only [runK]
    split
    · rename_i hc; exact runK_ok m (stepS_ok h hc.1 hc.2)
    · exact h
theorem runK_le {I : List Fn} : ∀ (m : Nat) (S : St), (runK I m S).2.1 ≤ m
  | 0, S => by simp [runK]
  | m + 1, S => by
    simp only [runK]
    split
    · have := runK_le (I := I) m (stepS I S); simp only; omega
    · simp
end Go.Proofs.YtnkdkajllmopaaaGreat.TL

namespace Go.Proofs.YtnkdkajllmopaaaGreat.TL
open Go
set_option linter.unusedVariables false
set_option linter.unusedSimpArgs false

/-- The first call. -/
def st0 (I : List Fn) (W : Wd) (fn : Nat) (args : List Int) : St := ⟨W, ⟨fn, 0, [], locsOf ((I[fn]?.map Fn.locs).getD 0) args⟩, 1, 0, 0⟩
/-- How a run ends: the trap, the value, the steps. -/
def resT (r : St × Nat × Bool) : Int := if r.2.2 then 2 else r.1.trap
def resV (r : St × Nat × Bool) : Int := if r.2.2 then 0 else if r.1.trap = 0 then r.1.val else 0

set_option maxHeartbeats 4000000 in
set_option maxRecDepth 100000 in
theorem Run_T (V : Vs) (u : Nat) (I : List Fn) (W : Wd) (fuel : Int) (fn : Nat) (args : List Int) (g : Fn) (hI : Flat I) (hg : I[fn]? = some g) (ha : (args.length : Int) = g.args) (hf : fuel ≤ 1000000) (hW : W.tab.WF) (hh : W.heap.length = 64) :
    callT Tryz.prog 84 [.at 2004 V.m 0, i64v fuel, i64v fn, .isl (args.map i64v) args.length] ⟨[], wdH V u I W⟩ (fun r h => ∃ u', r = .agg [i64v (resT (runK I fuel.toNat (st0 I W fn args))), i64v (resV (runK I fuel.toNat (st0 I W fn args))), i64v (runK I fuel.toNat (st0 I W fn args)).2.1] ∧ h = wdH V u' I (runK I fuel.toNat (st0 I W fn args)).1.W) := by
  refine callT_of_body [0, 1, 2, 3, 8, 9, 10, 47, 50, 61] [2001, 2002, 2003, 2004, 2005, 2006] Tryz.func84 rfl (by decide) (by kernel_rfl) rfl ?_
  obtain ⟨hgc, hg0, hgl, hl16, D, ht⟩ := hI g (List.mem_of_getElem? hg)
  have hfn := rowFn_at hg
  obtain ⟨hfl, -⟩ := List.getElem?_eq_some_iff.1 hg
  simp only [i64v] at hfn
  simp [i64v]
  intro v8 vr
  refine draw_g [0, 1, 2, 3, 4, 5, 6, 7, 8, 9, 10, 11, 12, 13, 14, 15, 16, 17, 18] 19 [(16, [5, 6, 7, 8, 9, 10, 11, 12, 13, 14, 15]), (18, [1, 2, 3, 4, 5, 6, 7, 8, 9, 10, 11, 12, 13, 14, 15, 16, 17])] (by kernel_rfl) (by kernel_rfl) (by kernel_rfl) ?_
  simp [i64v, hfn, hfl]
  refine callT_ex4 [(11, 2012), (16, 2010), (20, 2009), (2011, 2011)] (Make_T fn g.locs args (by omega) hl16) ?_
  simp [i64v]
  intro a b c d v
  obtain ⟨m0, hm0⟩ : ∃ m0, m0 = fuel.toNat := ⟨_, rfl⟩
  have hl0 : (locsOf g.locs args).length ≤ 16 := by rw [length_locsOf (by omega)]; omega
  have hS0 : st0 I W fn args = ⟨W, ⟨fn, 0, [], locsOf g.locs args⟩, 1, 0, 0⟩ := by simp [st0, hg]
  have hok0 : StOk I (st0 I W fn args) := by
    rw [hS0]
    refine ⟨by simp, by simp, hW, hh, by simp, hl0, fun _ _ => ⟨rfl, g, D, hg, hgc, ht, ?_⟩⟩
    simp only [typed, Bool.and_eq_true, decide_eq_true_eq] at ht
    exact ht.1
  obtain ⟨r0, hr0⟩ : ∃ r0, r0 = runK I m0 (st0 I W fn args) := ⟨_, rfl⟩
  rw [← hm0, ← hr0]
  refine loopT_of (St × Nat × Nat × Nat) (fun x => StOk I x.1 ∧ x.2.2.2 ≤ m0 ∧ r0 = ((runK I (m0 - x.2.2.2) x.1).1, (runK I (m0 - x.2.2.2) x.1).2.1 + x.2.2.2, (runK I (m0 - x.2.2.2) x.1).2.2))
    (fun x => ⟨[(1, .v (.int .i64 fuel)), (8, .at 8 v8 0), (9, .at 13 vr 0), (10, i64v x.2.2.2)],
      wdH V x.2.1 I x.1.W ++ [(8, v8, ⟨0, [i64v 0, i64v 0, i64v 0]⟩), (13, vr, ⟨0, [.at 2004 V.m 0, .sl 32 v 0 x.1.n, i64v x.1.trap, i64v x.1.val]⟩), (32, v, ⟨1, [.at 2009 a 0]⟩),
       (2009, a, ⟨0, [.at 2010 b 0, i64v x.1.f.fn, i64v x.1.f.at', .sl 2012 d 0 x.1.f.loc.length]⟩), (2010, b, ⟨0, [.sl 2011 x.2.2.1 0 x.1.f.stk.length]⟩), (2011, x.2.2.1, ⟨1, x.1.f.stk.map i64v⟩), (2012, d, ⟨1, x.1.f.loc.map i64v⟩)]⟩)
    (fun x => m0 - x.2.2.2) (st0 I W fn args, u, c, 0) ⟨hok0, by simp, by simp [hr0]⟩ (by simp [i64v]) (by simp [i64v, hS0]) ?_
  rintro ⟨S, u1, k1, s⟩ ⟨hok, hs, hr⟩
  simp only at hok hs hr ⊢
  by_cases hgo : S.n = 1 ∧ S.trap = 0
  · obtain ⟨hn, htr⟩ := hgo
    by_cases hfu : fuel ≤ s
    · rw [show m0 - s = 0 by omega] at hr
      simp [runK, hn, htr] at hr
      subst hr
      simp [i64v, hn, htr, hfu, resT, resV]
    · have hlt : s < m0 := by omega
      have es : IntKind.i64.wrap ((s : Int) + 1) = ((s + 1 : Nat) : Int) := by rw [i64_id (by omega) (by omega)]; rfl
      have hst := Step_T V ⟨vr, v, a, b, d⟩ u1 k1 I S hok hn htr
      have hok' := stepS_ok hok hn htr
      rw [show m0 - s = (m0 - (s + 1)) + 1 by omega, runK, if_pos ⟨hn, htr⟩] at hr
      simp [i64v, hn, htr, hfu]
      generalize stepS I S = S' at hst hok' hr
      refine callT_exi2 [(2007, 13), (2008, 32), (2009, 2009), (2010, 2010), (2011, 2011), (2012, 2012), (2001, 2001), (2002, 2002), (2003, 2003), (2004, 2004), (2005, 2005), (2006, 2006)] hst ?_
      simp [i64v, hn, htr]
      intro u2 k2
      refine SLx.again (S', u2, k2, s + 1) ⟨hok', by simp only; omega, ?_⟩ (by simp only; omega) (by simp [i64v, es]) (by simp [i64v])
      simp only
      rw [hr]
      simp
      omega
  · have hrk : ∀ m, runK I m S = (S, 0, false) := fun m => by
      cases m with
      | zero => simp [runK, hgo]
      | succ m => simp only [runK]; rw [if_neg hgo]
    rw [hrk] at hr
    simp at hr
    subst hr
    have hn1 := hok.n1
    by_cases hn0 : S.n = 0
    · by_cases htr : S.trap = 0
      · simp [i64v, hn0, htr, resT, resV]
      · simp [i64v, hn0, htr, resT, resV]
    · have hn : S.n = 1 := by omega
      have htr : ¬ S.trap = 0 := fun e => hgo ⟨hn, e⟩
      simp [i64v, hn, htr, resT, resV]
end Go.Proofs.YtnkdkajllmopaaaGreat.TL

namespace Go.Proofs.YtnkdkajllmopaaaGreat.TL
open Go
set_option linter.unusedVariables false
set_option linter.unusedSimpArgs false

/-- What a step leaves alone. -/
def Wd.cnt (W : Wd) : List Int := [W.refused, W.e0, W.e1, W.e2, W.e3, W.e4, W.e5, W.turn, W.player]
theorem do_cnt (W : Wd) (n : Int) (l : List Int) : (W.do n l).1.cnt = W.cnt := by
  unfold Wd.do
  split
  · rfl
  split
  · rfl
  split
  · split <;> rfl
  split
  · split <;> rfl
  split
  · rfl
  split <;> rfl
theorem stepX_cnt (x : Ins) (W : Wd) (f : Fr) : (stepX x W f).W.cnt = W.cnt := by
  have ite : ∀ (c : Prop) [Decidable c] (a b : St), a.W.cnt = W.cnt → b.W.cnt = W.cnt → (if c then a else b).W.cnt = W.cnt := fun c _ a b h1 h2 => by split <;> assumption
  unfold stepX
  simp only
  repeat' apply ite
  all_goals first | rfl | exact do_cnt _ _ _
theorem stepS_cnt (I : List Fn) (S : St) : (stepS I S).W.cnt = S.W.cnt := by
  unfold stepS
  split
  · split
    · exact stepX_cnt _ _ _
    · rfl
  · rfl
theorem runK_cnt (I : List Fn) : ∀ (m : Nat) (S : St), (runK I m S).1.W.cnt = S.W.cnt
  | 0, S => rfl
  | m + 1, S => by
    simp only [runK]
    split
    · exact (runK_cnt I m _).trans (stepS_cnt I S)
    · rfl

/-- One end more. -/
def Wd.bump (W : Wd) (t : Int) : Wd :=
  if t = 0 then { W with e0 := W.e0 + 1 } else if t = 1 then { W with e1 := W.e1 + 1 } else if t = 2 then { W with e2 := W.e2 + 1 } else if t = 3 then { W with e3 := W.e3 + 1 } else if t = 4 then { W with e4 := W.e4 + 1 } else { W with e5 := W.e5 + 1 }
/-- A run: the world, what is left of the fuel. -/
def wrun (I : List Fn) (W : Wd) (left player : Int) (fn : Nat) (args : List Int) : Wd × Int :=
  (Wd.bump { (runK I left.toNat (st0 I { W with player := player } fn args)).1.W with player := 255 } (resT (runK I left.toNat (st0 I { W with player := player } fn args))), left - (runK I left.toNat (st0 I { W with player := player } fn args)).2.1)
/-- Small counts. -/
def Wd.small (W : Wd) : Prop := ∀ x ∈ W.cnt, 0 ≤ x ∧ x ≤ 1000000000000

theorem st0_ok {I : List Fn} {W : Wd} {fn : Nat} {args : List Int} {g : Fn} (hI : Flat I) (hg : I[fn]? = some g) (ha : (args.length : Int) = g.args) (hW : W.tab.WF) (hh : W.heap.length = 64) : StOk I (st0 I W fn args) := by
  obtain ⟨hgc, hg0, hgl, hl16, D, ht⟩ := hI g (List.mem_of_getElem? hg)
  have hl0 : (locsOf g.locs args).length ≤ 16 := by rw [length_locsOf (by omega)]; omega
  have hS0 : st0 I W fn args = ⟨W, ⟨fn, 0, [], locsOf g.locs args⟩, 1, 0, 0⟩ := by simp [st0, hg]
  rw [hS0]
  refine ⟨by simp, by simp, hW, hh, by simp, hl0, fun _ _ => ⟨rfl, g, D, hg, hgc, ht, ?_⟩⟩
  simp only [typed, Bool.and_eq_true, decide_eq_true_eq] at ht
  exact ht.1

set_option maxHeartbeats 4000000 in
set_option maxRecDepth 100000 in
theorem WRun_T (V : Vs) (u : Nat) (I : List Fn) (W : Wd) (left player : Int) (fn : Nat) (args : List Int) (g : Fn) (hI : Flat I) (hg : I[fn]? = some g) (ha : (args.length : Int) = g.args) (hl0 : 0 ≤ left) (hl : left ≤ 1000000) (hW : W.tab.WF) (hh : W.heap.length = 64) (hs : W.small) :
    callT Tryz.prog 67 [.at 2001 V.w 0, i64v left, i64v player, i64v fn, .isl (args.map i64v) args.length] ⟨[], wdH V u I W⟩ (fun r h => ∃ u', r = i64v (wrun I W left player fn args).2 ∧ h = wdH V u' I (wrun I W left player fn args).1) := by
  refine callT_of_body [0, 1, 2, 3, 4, 10, 11] [2001, 2002, 2003, 2004, 2005, 2006] Tryz.func67 rfl (by decide) (by kernel_rfl) rfl ?_
  have hR := Run_T V u I { W with player := player } left fn args g hI hg ha hl hW hh
  have hok := runK_ok left.toNat (st0_ok (W := { W with player := player }) hI hg ha hW hh)
  have hcn := runK_cnt I left.toNat (st0 I { W with player := player } fn args)
  have hle := runK_le (I := I) left.toNat (st0 I { W with player := player } fn args)
  unfold wrun
  generalize hq : runK I left.toNat (st0 I { W with player := player } fn args) = q at hR hok hcn hle ⊢
  obtain ⟨⟨W', f', n', tr', vl'⟩, k, o⟩ := q
  have hrt : 0 ≤ resT (⟨W', f', n', tr', vl'⟩, k, o) ∧ resT (⟨W', f', n', tr', vl'⟩, k, o) ≤ 5 := by
    have := hok.tr
    unfold resT
    simp only at this ⊢
    split <;> omega
  generalize resT (⟨W', f', n', tr', vl'⟩, k, o) = rt at hR hrt ⊢
  generalize resV (⟨W', f', n', tr', vl'⟩, k, o) = rv at hR ⊢
  simp only at hR hcn hle ⊢
  have hb : ∀ x ∈ [W'.e0, W'.e1, W'.e2, W'.e3, W'.e4, W'.e5], 0 ≤ x ∧ x ≤ 1000000000000 := by
    simp only [st0, Wd.cnt] at hcn
    simp only [List.cons.injEq] at hcn
    obtain ⟨c0, c1, c2, c3, c4, c5, c6, c7, c8⟩ := hcn
    intro x hx
    apply hs
    simp only [Wd.cnt]
    simp only [List.mem_cons, List.not_mem_nil, or_false] at hx ⊢
    rcases hx with rfl | rfl | rfl | rfl | rfl | rfl <;> simp [c1, c2, c3, c4, c5, c6]
  simp only [List.mem_cons, List.not_mem_nil, or_false, forall_eq_or_imp, forall_eq] at hb
  obtain ⟨b0, b1, b2, b3, b4, b5⟩ := hb
  have w0 : IntKind.i64.wrap (W'.e0 + 1) = W'.e0 + 1 := i64_id (by omega) (by omega)
  have w1 : IntKind.i64.wrap (W'.e1 + 1) = W'.e1 + 1 := i64_id (by omega) (by omega)
  have w2 : IntKind.i64.wrap (W'.e2 + 1) = W'.e2 + 1 := i64_id (by omega) (by omega)
  have w3 : IntKind.i64.wrap (W'.e3 + 1) = W'.e3 + 1 := i64_id (by omega) (by omega)
  have w4 : IntKind.i64.wrap (W'.e4 + 1) = W'.e4 + 1 := i64_id (by omega) (by omega)
  have w5 : IntKind.i64.wrap (W'.e5 + 1) = W'.e5 + 1 := i64_id (by omega) (by omega)
  have wl : IntKind.i64.wrap (left - k) = left - k := i64_id (by omega) (by omega)
  simp [i64v]
  refine callT_ex [(2001, 2001), (2002, 2002), (2003, 2003), (2004, 2004), (2005, 2005), (2006, 2006)] hR ?_
  simp [i64v]
  intro u' v11
  have hc : rt = 0 ∨ rt = 1 ∨ rt = 2 ∨ rt = 3 ∨ rt = 4 ∨ rt = 5 := by omega
  rcases hc with rfl | rfl | rfl | rfl | rfl | rfl
  all_goals
    refine draw_g [0, 1, 2, 3, 4, 5, 6, 7, 8, 9, 10, 11] 12 [] (by kernel_rfl) (by kernel_rfl) (by kernel_rfl) ?_
    simp [i64v, w0, w1, w2, w3, w4, w5, wl, Wd.bump]
end Go.Proofs.YtnkdkajllmopaaaGreat.TL

namespace Go.Proofs.YtnkdkajllmopaaaGreat.TL
open Go
set_option linter.unusedVariables false
set_option linter.unusedSimpArgs false

/-- One order: refused, or played. -/
def playO (I : List Fn) (p : Int) (x : Wd × Int) (o : Ord) : Wd × Int :=
  if o.valid x.1.tab p = 0 then wrun I x.1 x.2 p 1 [o.u, o.k, o.a, o.b] else ({ x.1 with refused := x.1.refused + 1 }, x.2)
def playB (I : List Fn) (p : Int) (x : Wd × Int) (l : List Ord) : Wd × Int := l.foldl (playO I p) x
def playL (I : List Fn) (x : Wd × Int) (l : List Ply) : Wd × Int := l.foldl (fun x q => playB I q.p x q.b) x
/-- A turn: the world, the error's number. -/
def Wd.play (I : List Fn) (W : Wd) (l : List Ply) : Wd × Int :=
  if wchk l = 0 then ((wrun I { (playL I (W, 2000) l).1 with turn := (playL I (W, 2000) l).1.turn + 1 } (playL I (W, 2000) l).2 255 0 [(playL I (W, 2000) l).1.turn + 1]).1, 0) else (W, wchk l)

/-- What a turn keeps: a table that may be, 64 cells, counts up to a bound. -/
structure Wd.Ok (W : Wd) (b : Int) : Prop where
  wf : W.tab.WF
  hp : W.heap.length = 64
  sm : ∀ x ∈ [W.refused, W.e0, W.e1, W.e2, W.e3, W.e4, W.e5, W.turn], 0 ≤ x ∧ x ≤ b
  pl : W.player = 255
/-- What an image must be: two functions, of one argument and of four. -/
structure Img (I : List Fn) : Prop where
  fl : Flat I
  f0 : ∃ g, I[0]? = some g ∧ g.args = 1
  f1 : ∃ g, I[1]? = some g ∧ g.args = 4

theorem Wd.Ok.mono {W : Wd} {b c : Int} (h : W.Ok b) (hbc : b ≤ c) : W.Ok c := ⟨h.wf, h.hp, fun x hx => ⟨(h.sm x hx).1, by have := (h.sm x hx).2; omega⟩, h.pl⟩
theorem Wd.Ok.small {W : Wd} {b : Int} (h : W.Ok b) (hb : b ≤ 1000000000000) : W.small := by
  intro x hx
  simp only [Wd.cnt, List.mem_cons, List.not_mem_nil, or_false] at hx
  by_cases hp : x = W.player
  · rw [hp, h.pl]; omega
  · have := h.sm x (by simp only [List.mem_cons, List.not_mem_nil, or_false]; rcases hx with h | h | h | h | h | h | h | h | h <;> simp_all)
    omega

theorem wrun_ok {I : List Fn} {W : Wd} {b left player : Int} {fn : Nat} {args : List Int} {g : Fn} (hI : Flat I) (hg : I[fn]? = some g) (ha : (args.length : Int) = g.args) (h : W.Ok b) (hl : 0 ≤ left) : (wrun I W left player fn args).1.Ok (b + 1) ∧ 0 ≤ (wrun I W left player fn args).2 ∧ (wrun I W left player fn args).2 ≤ left := by
  have hok := runK_ok left.toNat (st0_ok (W := { W with player := player }) hI hg ha h.wf h.hp)
  have hcn := runK_cnt I left.toNat (st0 I { W with player := player } fn args)
  have hle := runK_le (I := I) left.toNat (st0 I { W with player := player } fn args)
  unfold wrun
  generalize hq : runK I left.toNat (st0 I { W with player := player } fn args) = q at hok hcn hle ⊢
  obtain ⟨⟨W', f', n', tr', vl'⟩, k, o⟩ := q
  simp only at hcn hle hok ⊢
  refine ⟨?_, by omega, by omega⟩
  simp only [st0, Wd.cnt, List.cons.injEq] at hcn
  obtain ⟨c0, c1, c2, c3, c4, c5, c6, c7, c8, -⟩ := hcn
  have hw := hok.wf
  have hp := hok.hp
  simp only at hw hp
  have hs := h.sm
  simp only [List.mem_cons, List.not_mem_nil, or_false, forall_eq_or_imp, forall_eq] at hs
  obtain ⟨s0, s1, s2, s3, s4, s5, s6, s7⟩ := hs
  have key : ∀ X : Wd, X.tab = W'.tab → X.heap = W'.heap → X.player = 255 → (X.refused = W.refused ∧ X.turn = W.turn ∧ (X.e0 = W.e0 ∨ X.e0 = W.e0 + 1) ∧ (X.e1 = W.e1 ∨ X.e1 = W.e1 + 1) ∧ (X.e2 = W.e2 ∨ X.e2 = W.e2 + 1) ∧ (X.e3 = W.e3 ∨ X.e3 = W.e3 + 1) ∧ (X.e4 = W.e4 ∨ X.e4 = W.e4 + 1) ∧ (X.e5 = W.e5 ∨ X.e5 = W.e5 + 1)) → X.Ok (b + 1) :=
    fun X x1 x2 x3 ⟨x4, x5, y0, y1, y2, y3, y4, y5⟩ => ⟨x1 ▸ hw, x2 ▸ hp, by
      intro x hx
      simp only [List.mem_cons, List.not_mem_nil, or_false] at hx
      rcases hx with rfl | rfl | rfl | rfl | rfl | rfl | rfl | rfl <;> omega, x3⟩
  unfold Wd.bump
  split
  · exact key _ rfl rfl rfl (by simp [c0, c1, c2, c3, c4, c5, c6, c7])
  split
  · exact key _ rfl rfl rfl (by simp [c0, c1, c2, c3, c4, c5, c6, c7])
  split
  · exact key _ rfl rfl rfl (by simp [c0, c1, c2, c3, c4, c5, c6, c7])
  split
  · exact key _ rfl rfl rfl (by simp [c0, c1, c2, c3, c4, c5, c6, c7])
  split
  · exact key _ rfl rfl rfl (by simp [c0, c1, c2, c3, c4, c5, c6, c7])
  · exact key _ rfl rfl rfl (by simp [c0, c1, c2, c3, c4, c5, c6, c7])

theorem playO_ok {I : List Fn} (hI : Img I) (p : Int) (o : Ord) {x : Wd × Int} {b : Int} (h : x.1.Ok b) (hl : 0 ≤ x.2) : (playO I p x o).1.Ok (b + 1) ∧ 0 ≤ (playO I p x o).2 ∧ (playO I p x o).2 ≤ x.2 := by
  unfold playO
  split
  · obtain ⟨g, hg, ha⟩ := hI.f1
    exact wrun_ok hI.fl hg (by simp [ha]) h hl
  · refine ⟨⟨h.wf, h.hp, ?_, h.pl⟩, hl, Int.le_refl _⟩
    have hs := h.sm
    simp only [List.mem_cons, List.not_mem_nil, or_false, forall_eq_or_imp, forall_eq] at hs ⊢
    omega
theorem playB_ok {I : List Fn} (hI : Img I) (p : Int) : ∀ (l : List Ord) {x : Wd × Int} {b : Int}, x.1.Ok b → 0 ≤ x.2 → (playB I p x l).1.Ok (b + l.length) ∧ 0 ≤ (playB I p x l).2 ∧ (playB I p x l).2 ≤ x.2
  | [], x, b, h, hl => by simpa [playB] using ⟨h, hl⟩
  | o :: l, x, b, h, hl => by
    have h1 := playO_ok hI p o h hl
    have h2 := playB_ok hI p l h1.1 h1.2.1
    simp only [playB, List.foldl_cons, List.length_cons] at h2 ⊢
    rw [show b + 1 + (l.length : Int) = b + ((l.length + 1 : Nat) : Int) by omega] at h2
    exact ⟨h2.1, h2.2.1, by omega⟩

theorem playL_ok {I : List Fn} (hI : Img I) : ∀ (l : List Ply), (∀ q ∈ l, q.b.length ≤ 1000000) → ∀ {x : Wd × Int} {b : Int}, x.1.Ok b → 0 ≤ x.2 → (playL I x l).1.Ok (b + 1000000 * l.length) ∧ 0 ≤ (playL I x l).2 ∧ (playL I x l).2 ≤ x.2
  | [], _, x, b, h, hl => by simpa [playL] using ⟨h, hl⟩
  | q :: l, hq, x, b, h, hl => by
    have h1 := playB_ok hI q.p q.b h hl
    have hq0 := hq q (by simp)
    have h2 := playL_ok hI l (fun z hz => hq z (by simp [hz])) (h1.1.mono (c := b + 1000000) (by omega)) h1.2.1
    simp only [playL, List.foldl_cons, List.length_cons] at h2 ⊢
    rw [show b + 1000000 + 1000000 * (l.length : Int) = b + 1000000 * ((l.length + 1 : Nat) : Int) by omega] at h2
    exact ⟨h2.1, h2.2.1, by omega⟩

set_option maxHeartbeats 8000000 in
set_option maxRecDepth 100000 in
theorem Play_T (V : Vs) (u : Nat) (I : List Fn) (W : Wd) (l : List Ply) (b : Int) (hI : Img I) (h : W.Ok b) (hb : b ≤ 500000000000) (hl : l.length ≤ 1000) (hq : ∀ q ∈ l, q.b.length ≤ 1000000) :
    callT Tryz.prog 41 [.at 2001 V.w 0, .isl (rowP l) l.length] ⟨[], wdH V u I W⟩ (fun r h => ∃ u', r = i64c (W.play I l).2 ∧ h = wdH V u' I (W.play I l).1) := by
  refine callT_of_body [0, 1, 4, 5, 6, 8, 10, 14, 16, 17, 18, 19, 23, 24, 25, 26, 37] [2001, 2002, 2003, 2004, 2005, 2006] Tryz.func41 rfl (by decide) (by kernel_rfl) rfl ?_
  simp [i64v]
  refine callT_eq [] (WChk_T l (by omega) hq) ?_
  by_cases hw : wchk l = 0
  · simp [i64c, i64v, hw]
    refine loopT_of ((Wd × Int) × Nat × Nat) (fun x => x.2.2 ≤ l.length ∧ x.1.1.Ok (b + 1000000 * x.2.2) ∧ 0 ≤ x.1.2 ∧ x.1.2 ≤ 2000 ∧ playL I (W, 2000) l = playL I x.1 (l.drop x.2.2))
      (fun x => ⟨[(0, .at 2001 V.w 0), (6, i64v x.1.2), (16, .isl (rowP l) l.length), (17, i64v l.length), (18, i64v x.2.2)], wdH V x.2.1 I x.1.1⟩) (fun x => l.length - x.2.2) ((W, 2000), u, 0) ⟨by simp, by simpa using h, by simp, by simp, by simp⟩ (by simp [i64v]) (by simp [i64v]) ?_
    rintro ⟨⟨W1, left⟩, u1, k⟩ ⟨hk, hok, hl0, hl2, hp⟩
    simp only at hk hok hl0 hl2 hp ⊢
    by_cases g : k < l.length
    · have hat := rowP_at g
      have hqk := hq _ (List.getElem_mem g)
      rw [List.drop_eq_getElem_cons g] at hp
      simp only [i64c] at hat
      generalize l[k] = q at hat hqk hp
      have ek : IntKind.i64.wrap ((k : Int) + 1) = ((k + 1 : Nat) : Int) := by rw [i64_id (by omega) (by omega)]; rfl
      simp [i64v, g, hat]
      intro v8
      refine loopT_of ((Wd × Int) × Nat × Nat) (fun y => y.2.2 ≤ q.b.length ∧ y.1.1.Ok (b + 1000000 * k + y.2.2) ∧ 0 ≤ y.1.2 ∧ y.1.2 ≤ 2000 ∧ playB I q.p (W1, left) q.b = playB I q.p y.1 (q.b.drop y.2.2))
        (fun y => ⟨[(0, .at 2001 V.w 0), (6, i64v y.1.2), (8, .at 8 v8 0), (16, .isl (rowP l) l.length), (17, i64v l.length), (18, i64v k), (23, .isl (rowC q.b) q.b.length), (24, i64v q.b.length), (25, i64v y.2.2)], wdH V y.2.1 I y.1.1 ++ [(8, v8, ⟨0, [i64v q.p, .isl (rowC q.b) q.b.length]⟩)]⟩)
        (fun y => q.b.length - y.2.2) ((W1, left), u1, 0) ⟨by simp, by simpa using hok, hl0, hl2, by simp⟩ (by simp [i64v]) (by simp [i64v]) ?_
      rintro ⟨⟨W2, left2⟩, u2, j⟩ ⟨hj, hok2, hm0, hm2, hp2⟩
      simp only at hj hok2 hm0 hm2 hp2 ⊢
      by_cases gj : j < q.b.length
      · have hat2 := rowC_at gj
        rw [List.drop_eq_getElem_cons gj] at hp2
        simp only [i64c] at hat2
        generalize q.b[j] = o at hat2 hp2
        have ej : IntKind.i64.wrap ((j : Int) + 1) = ((j + 1 : Nat) : Int) := by rw [i64_id (by omega) (by omega)]; rfl
        have hV := Valid_T V.t u2 o W2.tab q.p hok2.wf
        obtain ⟨g1, hg1, ha1⟩ := hI.f1
        have hsml := hok2.small (by omega)
        have hWR := WRun_T V u2 I W2 left2 q.p 1 [o.u, o.k, o.a, o.b] g1 hI.fl hg1 (by simp [ha1]) hm0 (by omega) hok2.wf hok2.hp hsml
        have hpo := playO_ok hI q.p o (x := (W2, left2)) hok2 hm0
        have hrf : IntKind.i64.wrap (W2.refused + 1) = W2.refused + 1 := by
          have := hsml W2.refused (by simp [Wd.cnt])
          exact i64_id (by omega) (by omega)
        simp only [Ord.cells, i64c, i64v] at hV
        simp only [playB, List.foldl_cons] at hp2
        simp [i64v, gj, hat2]
        intro v10
        refine draw_g [0, 1, 2, 3, 4, 5, 6] 7 [] (by kernel_rfl) (by kernel_rfl) (by kernel_rfl) ?_
        simp [i64v]
        refine callT_eq [(1000, 2002), (1001, 2003)] hV ?_
        by_cases hv : o.valid W2.tab q.p = 0
        · rw [show playO I q.p (W2, left2) o = wrun I W2 left2 q.p 1 [o.u, o.k, o.a, o.b] by simp [playO, hv]] at hpo hp2
          generalize wrun I W2 left2 q.p 1 [o.u, o.k, o.a, o.b] = wr at hWR hpo hp2
          obtain ⟨W3, left3⟩ := wr
          simp only at hWR hpo hp2
          simp [i64v, hv]
          intro vb
          refine callT.pre (fn_of hWR) (CLx.frz 59 rfl (CLx.done ?_))
          simp [i64v]
          refine callT_ex [(2001, 2001), (2002, 2002), (2003, 2003), (2004, 2004), (2005, 2005), (2006, 2006)] hWR ?_
          simp [i64v]
          intro u3
          exact SLx.again ((W3, left3), u3, j + 1) ⟨by simp only; omega, hpo.1.mono (by simp only; omega), hpo.2.1, by simp only; omega, by simpa only [playB] using hp2⟩ (by simp only; omega) (by simp [i64v, ej]) (by simp [i64v])
        · rw [show playO I q.p (W2, left2) o = ({ W2 with refused := W2.refused + 1 }, left2) by simp [playO, hv]] at hpo hp2
          simp [i64v, hv]
          exact SLx.again (({ W2 with refused := W2.refused + 1 }, left2), u2, j + 1) ⟨by simp only; omega, hpo.1.mono (by simp only; omega), hpo.2.1, by simp only; omega, by simpa only [playB] using hp2⟩ (by simp only; omega) (by simp [i64v, ej]) (by simp [i64v, hrf])
      · have hjl : j = q.b.length := by omega
        subst hjl
        have hp3 : playL I (W, 2000) l = playL I (W2, left2) (l.drop (k + 1)) := by
          rw [hp]
          simp only [playL, List.foldl_cons]
          rw [hp2]
          simp [playB]
        simp [i64v]
        exact SLx.again ((W2, left2), u2, k + 1) ⟨by simp only; omega, hok2.mono (by simp only; omega), hm0, hm2, hp3⟩ (by simp only; omega) (by simp [i64v, ek]) (by simp [i64v])
    · have hkl : k = l.length := by omega
      subst hkl
      have hp3 : playL I (W, 2000) l = (W1, left) := by rw [hp]; simp [playL]
      obtain ⟨g0, hg0, ha0⟩ := hI.f0
      have ht := hok.sm W1.turn (by simp)
      have et : IntKind.i64.wrap (W1.turn + 1) = W1.turn + 1 := i64_id (by omega) (by omega)
      have hok3 : Wd.Ok { W1 with turn := W1.turn + 1 } (b + 1000000 * (l.length : Nat) + 1) := by
        refine ⟨hok.wf, hok.hp, ?_, hok.pl⟩
        have hs := hok.sm
        simp only [List.mem_cons, List.not_mem_nil, or_false, forall_eq_or_imp, forall_eq] at hs ⊢
        omega
      have hWR := WRun_T V u1 I { W1 with turn := W1.turn + 1 } left 255 0 [W1.turn + 1] g0 hI.fl hg0 (by simp [ha0]) hl0 (by omega) hok3.wf hok3.hp (hok3.small (by omega))
      have hpl : W.play I l = ((wrun I { W1 with turn := W1.turn + 1 } left 255 0 [W1.turn + 1]).1, 0) := by simp [Wd.play, hw, hp3]
      rw [hpl]
      generalize wrun I { W1 with turn := W1.turn + 1 } left 255 0 [W1.turn + 1] = wr at hWR ⊢
      obtain ⟨W3, left3⟩ := wr
      simp only at hWR
      simp [i64v, et]
      intro vb
      refine callT.pre (fn_of hWR) (CLx.frz 76 rfl (CLx.done ?_))
      simp [i64v]
      refine callT_ex [(2001, 2001), (2002, 2002), (2003, 2003), (2004, 2004), (2005, 2005), (2006, 2006)] hWR ?_
      simp [i64v]
  · simp [i64c, i64v, hw, Wd.play]
end Go.Proofs.YtnkdkajllmopaaaGreat.TL

namespace Go.Proofs.YtnkdkajllmopaaaGreat.TL
open Go
set_option linter.unusedVariables false
set_option linter.unusedSimpArgs false

def inI64 (x : Int) : Prop := -9223372036854775808 ≤ x ∧ x ≤ 9223372036854775807
/-- The dice and the cells are in their ranges. -/
structure Wd.R (W : Wd) : Prop where
  d : 0 ≤ W.dice ∧ W.dice < 18446744073709551616
  h : ∀ x ∈ W.heap, inI64 x
/-- An image that writes no cells. -/
def NoPut (I : List Fn) : Prop := ∀ g ∈ I, ∀ x ∈ g.code, x.op ≠ 20

theorem u64_rng (x : Int) : 0 ≤ IntKind.u64.wrap x ∧ IntKind.u64.wrap x < 18446744073709551616 := by rw [IntKind.wrap_u64]; omega
theorem below_rng {d : Int} (h : 0 ≤ d ∧ d < 18446744073709551616) (n : Int) : 0 ≤ (below d n).1 ∧ (below d n).1 < 18446744073709551616 := by
  unfold below
  split
  · exact h
  · exact u64_rng _
theorem do_R {W : Wd} (h : W.R) (n : Int) (l : List Int) : (W.do n l).1.R := by
  have e : (W.do n l).1.dice = W.dice ∧ (W.do n l).1.heap = W.heap := by
    unfold Wd.do
    split
    · exact ⟨rfl, rfl⟩
    split
    · exact ⟨rfl, rfl⟩
    split
    · split <;> exact ⟨rfl, rfl⟩
    split
    · split <;> exact ⟨rfl, rfl⟩
    split
    · exact ⟨rfl, rfl⟩
    split <;> exact ⟨rfl, rfl⟩
  exact ⟨by rw [e.1]; exact h.d, by rw [e.2]; exact h.h⟩
theorem stepX_R {x : Ins} {W : Wd} {f : Fr} (h : W.R) (hx : x.op ≠ 20) : (stepX x W f).W.R := by
  have ite : ∀ (c : Prop) [Decidable c] (a b : St), a.W.R → b.W.R → (if c then a else b).W.R := fun c _ a b h1 h2 => by split <;> assumption
  unfold stepX
  simp only [if_neg hx]
  repeat' apply ite
  all_goals first | exact h | exact do_R h _ _ | exact ⟨below_rng h.d _, h.h⟩
theorem stepS_R {I : List Fn} (hI : NoPut I) {S : St} (h : S.W.R) : (stepS I S).W.R := by
  unfold stepS
  split
  · rename_i g hg
    split
    · rename_i x hx
      exact stepX_R h (hI g (List.mem_of_getElem? hg) x (List.mem_of_getElem? hx))
    · exact h
  · exact h
theorem runK_R {I : List Fn} (hI : NoPut I) : ∀ (m : Nat) {S : St}, S.W.R → (runK I m S).1.W.R
  | 0, S, h => h
  | m + 1, S, h => by
    simp only [runK]
    split
    · exact runK_R hI m (stepS_R hI h)
    · exact h
theorem wrun_R {I : List Fn} (hI : NoPut I) {W : Wd} (h : W.R) (left p : Int) (fn : Nat) (args : List Int) : (wrun I W left p fn args).1.R := by
  have h1 : (st0 I { W with player := p } fn args).W.R := ⟨h.d, h.h⟩
  have h2 := runK_R hI left.toNat h1
  unfold wrun Wd.bump
  have ite : ∀ (c : Prop) [Decidable c] (a b : Wd), a.R → b.R → (if c then a else b).R := fun c _ a b h1 h2 => by split <;> assumption
  simp only
  repeat' apply ite
  all_goals exact ⟨h2.d, h2.h⟩
theorem playO_R {I : List Fn} (hI : NoPut I) (p : Int) (o : Ord) {x : Wd × Int} (h : x.1.R) : (playO I p x o).1.R := by
  unfold playO
  split
  · exact wrun_R hI h _ _ _ _
  · exact ⟨h.d, h.h⟩
theorem playB_R {I : List Fn} (hI : NoPut I) (p : Int) : ∀ (l : List Ord) {x : Wd × Int}, x.1.R → (playB I p x l).1.R
  | [], x, h => h
  | o :: l, x, h => playB_R hI p l (playO_R hI p o h)
theorem playL_R {I : List Fn} (hI : NoPut I) : ∀ (l : List Ply) {x : Wd × Int}, x.1.R → (playL I x l).1.R
  | [], x, h => h
  | q :: l, x, h => playL_R hI l (playB_R hI q.p q.b h)
theorem play_R {I : List Fn} (hI : NoPut I) {W : Wd} (h : W.R) (l : List Ply) : (W.play I l).1.R := by
  unfold Wd.play
  split
  · exact wrun_R hI (W := { (playL I (W, 2000) l).1 with turn := (playL I (W, 2000) l).1.turn + 1 }) ⟨(playL_R hI l (x := (W, 2000)) h).d, (playL_R hI l (x := (W, 2000)) h).h⟩ _ _ _ _
  · exact h
theorem play_ok {I : List Fn} (hI : Img I) {W : Wd} {b : Int} (h : W.Ok b) (l : List Ply) (hq : ∀ q ∈ l, q.b.length ≤ 1000000) : (W.play I l).1.Ok (b + 1000000 * l.length + 2) := by
  unfold Wd.play
  split
  · have h1 := playL_ok hI l hq (x := (W, 2000)) h (by simp)
    obtain ⟨g0, hg0, ha0⟩ := hI.f0
    have h2 : Wd.Ok { (playL I (W, 2000) l).1 with turn := (playL I (W, 2000) l).1.turn + 1 } (b + 1000000 * l.length + 1) := by
      refine ⟨h1.1.wf, h1.1.hp, ?_, h1.1.pl⟩
      have hs := h1.1.sm
      simp only [List.mem_cons, List.not_mem_nil, or_false, forall_eq_or_imp, forall_eq] at hs ⊢
      omega
    have h3 := wrun_ok hI.fl hg0 (left := (playL I (W, 2000) l).2) (player := 255) (args := [(playL I (W, 2000) l).1.turn + 1]) (by simp [ha0]) h2 h1.2.1
    exact h3.1.mono (by omega)
  · exact h.mono (by omega)
end Go.Proofs.YtnkdkajllmopaaaGreat.TL

