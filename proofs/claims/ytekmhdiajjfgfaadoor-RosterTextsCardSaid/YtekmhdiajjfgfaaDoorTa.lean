/- Own words: values as trees over numbered blocks of a call's own (and unchanging memory): what a world must hold for them to stand. No program is named here. -/
import Derived.WalkKit
import Derived.Test.YtekmhdiajjfgfaaDoorTgl
import Derived.Deep.AppendSrc
import Derived.Room.Entries
namespace Go.Proofs.YtekmhdiajjfgfaaDoor.TL
open Go
set_option linter.unusedVariables false
set_option linter.unusedSimpArgs false

/-- A value: itself, or an address in block b of the call's own (of its version ver) at cell o, or a slice there (n elements from cell o on), or a slice, an address in memory that never changes, an interface value, a function, a struct, a tuple, what is known where g holds, or nothing known. -/
inductive TV where
  | v (x : Value)
  | at (b ver o : Nat)
  | sl (b ver o n : Nat)
  | isl (cells : List TV) (n : Nat)
  | iat (cells : List TV)
  | ifc (t : Nat) (x : TV)
  | fn (f : Fn) (caps : List TV)
  | agg (l : List TV)
  | tup (l : List TV)
  | opt (g : Bool) (x : TV)
  | any

/-- Where a block lies: block r, from cell base on; its cells up to sz are the call's own; of a slice's row: k cells an element (0: no row). -/
structure Real where
  r : Nat
  base : Nat
  sz : Nat
  k : Nat

structure Env where
  I : Nat → Nat → Option Value
  ρ : Nat → Option (Nat × Option Real)
  c : Nat

/-- A block: k cells an element (0: no row), its cells. -/
structure Blk where
  k : Nat
  cells : List TV

mutual
def RV (E : Env) : TV → Value → Prop
  | .any, _ => True
  | .v x, y => y = x
  | .at b ver o, y => ∃ p, y = .pointer (some p) ∧ ver ≤ E.c ∧ ∀ R, E.ρ b = some (ver, R) → ∃ q, R = some q ∧ p = ⟨q.r, q.base + o, none⟩
  | .sl b ver o n, y => ∃ a cap, y = .slice a n cap ∧ n ≤ cap ∧ (a = none → cap = 0) ∧ ver ≤ E.c ∧ ∀ R, E.ρ b = some (ver, R) → (R = none ∧ n = 0 ∧ a = none ∧ cap = 0) ∨
      ∃ q a', R = some q ∧ a = some a' ∧ (cap = 0 ∨ a' = ⟨q.r, q.base + o, none⟩) ∧ (q.k ≠ 0 → q.base + o + cap * q.k = q.sz)
  | .isl cells n, y => (n = 0 ∧ cells = [] ∧ y = .slice none 0 0) ∨ ∃ a cap, y = .slice (some a) n cap ∧ n ≤ cap ∧ (cells = [] ∨ a.spot = none ∧ RVl E cells (E.I a.block) a.off)
  | .iat cells, y => ∃ a, y = .pointer (some a) ∧ a.spot = none ∧ RVl E cells (E.I a.block) a.off
  | .ifc t x, y => ∃ z, y = .iface t z ∧ RV E x z
  | .fn f caps, y => ∃ zs : List Value, y = .func f #[] zs.toArray ∧ zs.length = caps.length ∧ RVl E caps (fun o => zs[o]?) 0
  | .agg l, y => ∃ zs : List Value, y = .agg zs.toArray ∧ zs.length = l.length ∧ RVl E l (fun o => zs[o]?) 0
  | .tup l, y => ∃ zs : List Value, y = .tuple zs.toArray ∧ zs.length = l.length ∧ RVl E l (fun o => zs[o]?) 0
  | .opt g x, y => (g = true → RV E x y) ∧ (g = false → y = undef)
def RVl (E : Env) : List TV → (Nat → Option Value) → Nat → Prop
  | [], _, _ => True
  | x :: l, f, o => (∃ v, f o = some v ∧ RV E x v) ∧ RVl E l f (o + 1)
end

/-- A later environment: what stood stands; what is new bears a new version. -/
structure Env.Le (E E' : Env) : Prop where
  c : E.c ≤ E'.c
  I : ∀ r o v, E.I r o = some v → E'.I r o = some v
  ρ : ∀ b ver R, E'.ρ b = some (ver, R) → ver ≤ E.c → E.ρ b = some (ver, R)

theorem Env.Le.refl (E : Env) : E.Le E := ⟨Nat.le_refl _, fun _ _ _ h => h, fun _ _ _ h _ => h⟩
theorem Env.Le.trans {E E' E'' : Env} (h : E.Le E') (k : E'.Le E'') : E.Le E'' :=
  ⟨Nat.le_trans h.c k.c, fun r o v x => k.I r o v (h.I r o v x), fun b ver R x y => h.ρ b ver R (k.ρ b ver R x (Nat.le_trans y h.c)) y⟩

mutual
theorem RV.mono {E E' : Env} (h : E.Le E') : ∀ (x : TV) (y : Value), RV E x y → RV E' x y
  | .any, _, _ => trivial
  | .v _, _, hx => hx
  | .at _ _ _, _, ⟨p, h0, h1, h2⟩ => ⟨p, h0, Nat.le_trans h1 h.c, fun R hR => h2 R (h.ρ _ _ _ hR h1)⟩
  | .sl _ _ _ _, _, ⟨a, cap, e0, e1, e2, h1, h2⟩ => ⟨a, cap, e0, e1, e2, Nat.le_trans h1 h.c, fun R hR => h2 R (h.ρ _ _ _ hR h1)⟩
  | .isl cells _, _, hx => by
    simp only [RV] at hx ⊢
    rcases hx with h0 | ⟨a, cap, h1, h2, h3⟩
    · exact .inl h0
    · refine .inr ⟨a, cap, h1, h2, ?_⟩
      rcases h3 with h3 | ⟨h3, h4⟩
      · exact .inl h3
      · exact .inr ⟨h3, RVl.mono h cells _ _ _ (fun o v => h.I _ o v) h4⟩
  | .iat cells, _, hx => by
    simp only [RV] at hx ⊢
    obtain ⟨a, h1, h3, h4⟩ := hx
    exact ⟨a, h1, h3, RVl.mono h cells _ _ _ (fun o v => h.I _ o v) h4⟩
  | .ifc _ x, _, hx => by
    simp only [RV] at hx ⊢
    obtain ⟨z, h1, h2⟩ := hx
    exact ⟨z, h1, RV.mono h x z h2⟩
  | .fn _ caps, _, hx => by
    simp only [RV] at hx ⊢
    obtain ⟨zs, h1, h2, h3⟩ := hx
    exact ⟨zs, h1, h2, RVl.mono h caps _ _ _ (fun _ _ x => x) h3⟩
  | .agg l, _, hx => by
    simp only [RV] at hx ⊢
    obtain ⟨zs, h1, h2, h3⟩ := hx
    exact ⟨zs, h1, h2, RVl.mono h l _ _ _ (fun _ _ x => x) h3⟩
  | .tup l, _, hx => by
    simp only [RV] at hx ⊢
    obtain ⟨zs, h1, h2, h3⟩ := hx
    exact ⟨zs, h1, h2, RVl.mono h l _ _ _ (fun _ _ x => x) h3⟩
  | .opt _ x, y, hx => by
    simp only [RV] at hx ⊢
    exact ⟨fun hg => RV.mono h x y (hx.1 hg), hx.2⟩
theorem RVl.mono {E E' : Env} (h : E.Le E') : ∀ (l : List TV) (f f' : Nat → Option Value) (o : Nat), (∀ o v, f o = some v → f' o = some v) → RVl E l f o → RVl E' l f' o
  | [], _, _, _, _, _ => by simp only [RVl]
  | x :: l, f, f', o, hf, hx => by
    simp only [RVl] at hx ⊢
    obtain ⟨⟨v, h1, h2⟩, h3⟩ := hx
    exact ⟨⟨v, hf _ _ h1, RV.mono h x v h2⟩, RVl.mono h l f f' (o + 1) hf h3⟩
end

theorem RVl.get {E : Env} : ∀ {l : List TV} {f : Nat → Option Value} {o : Nat}, RVl E l f o → ∀ (j : Nat) (x : TV), l[j]? = some x → ∃ v, f (o + j) = some v ∧ RV E x v
  | x :: l, f, o, h, 0, y, hy => by
    simp only [RVl] at h
    simp at hy
    subst hy
    exact h.1
  | x :: l, f, o, h, j + 1, y, hy => by
    simp only [RVl] at h
    simp at hy
    obtain ⟨v, h1, h2⟩ := RVl.get h.2 j y hy
    exact ⟨v, by rw [← h1]; congr 1; omega, h2⟩

theorem RVl.of {E : Env} : ∀ {l : List TV} {f : Nat → Option Value} {o : Nat}, (∀ (j : Nat) (x : TV), l[j]? = some x → ∃ v, f (o + j) = some v ∧ RV E x v) → RVl E l f o
  | [], _, _, _ => by simp only [RVl]
  | x :: l, f, o, h => by
    simp only [RVl]
    exact ⟨by simpa using h 0 x rfl, RVl.of fun j y hy => by obtain ⟨v, h1, h2⟩ := h (j + 1) y (by simpa using hy); exact ⟨v, by rw [← h1]; congr 1; omega, h2⟩⟩

theorem RVl_iff {E : Env} {l : List TV} {f : Nat → Option Value} {o : Nat} : RVl E l f o ↔ ∀ (j : Nat) (x : TV), l[j]? = some x → ∃ v, f (o + j) = some v ∧ RV E x v := ⟨fun h => h.get, RVl.of⟩

theorem RVl.drop {E : Env} {l : List TV} {f : Nat → Option Value} {o : Nat} (h : RVl E l f o) (k : Nat) : RVl E (l.drop k) f (o + k) :=
  RVl.of fun j x hx => by
    rw [List.getElem?_drop] at hx
    obtain ⟨v, h1, h2⟩ := h.get _ x hx
    exact ⟨v, by rw [← h1]; congr 1; omega, h2⟩

theorem RVl.take {E : Env} {l : List TV} {f : Nat → Option Value} {o : Nat} (h : RVl E l f o) (k : Nat) : RVl E (l.take k) f o :=
  RVl.of fun j x hx => by
    rw [List.getElem?_take] at hx
    split at hx
    · exact h.get _ x hx
    · cases hx

theorem RVl.append {E : Env} {l l' : List TV} {f : Nat → Option Value} {o : Nat} (h : RVl E l f o) (h' : RVl E l' f (o + l.length)) : RVl E (l ++ l') f o :=
  RVl.of fun j x hx => by
    rw [List.getElem?_append] at hx
    split at hx
    · exact h.get _ x hx
    · obtain ⟨v, h1, h2⟩ := h'.get _ x hx
      exact ⟨v, by rw [← h1]; congr 1; omega, h2⟩

/-- The values behind known cells. -/
theorem RVl.vals {E : Env} : ∀ {l : List TV} {f : Nat → Option Value} {o : Nat}, RVl E l f o → ∃ zs : List Value, zs.length = l.length ∧ (∀ (j : Nat) (z : Value), zs[j]? = some z → f (o + j) = some z) ∧ RVl E l (fun i => zs[i]?) 0
  | [], _, _, _ => ⟨[], rfl, fun _ _ h => by simp at h, by simp only [RVl]⟩
  | x :: l, f, o, h => by
    have h' := h
    simp only [RVl] at h'
    obtain ⟨⟨v, h1, h2⟩, h3⟩ := h'
    obtain ⟨zs, e1, e2, e3⟩ := RVl.vals h3
    refine ⟨v :: zs, by simp [e1], fun j z hz => ?_, RVl.of fun j y hy => ?_⟩
    · cases j with
      | zero => simp at hz; subst hz; simpa using h1
      | succ j => simp at hz; rw [← e2 j z hz]; congr 1; omega
    · cases j with
      | zero => simp at hy; subst hy; exact ⟨v, by simp, h2⟩
      | succ j => simp at hy; obtain ⟨u, k1, k2⟩ := e3.get j y hy; exact ⟨u, by simpa using k1, k2⟩

abbrev Heap := List (Nat × Nat × Blk)
def getT : List (Nat × TV) → Nat → TV
  | [], _ => .any
  | (k, x) :: l, n => if n = k then x else getT l n
def getH : Heap → Nat → Option (Nat × Blk)
  | [], _ => none
  | (k, x) :: l, n => if n = k then some x else getH l n
def setH : Heap → Nat → Nat × Blk → Heap
  | [], n, y => [(n, y)]
  | (k, x) :: l, n, y => if n = k then (n, y) :: l else (k, x) :: setH l n y
def delH : Heap → Nat → Heap
  | [], _ => []
  | (k, x) :: l, n => if n = k then delH l n else (k, x) :: delH l n

theorem getH_setH (h : Heap) (n : Nat) (y : Nat × Blk) (m : Nat) : getH (setH h n y) m = if m = n then some y else getH h m := by
  induction h with
  | nil => simp [setH, getH]
  | cons p l ih =>
    obtain ⟨k, x⟩ := p
    simp only [setH]
    by_cases hk : n = k
    · subst hk
      simp only [if_true, getH]
      by_cases hm : m = n <;> simp [hm]
    · simp only [if_neg hk, getH, ih]
      by_cases hm : m = k
      · subst hm; simp [Ne.symm hk]
      · simp [hm]
theorem getH_delH (h : Heap) (n m : Nat) : getH (delH h n) m = if m = n then none else getH h m := by
  induction h with
  | nil => simp [delH, getH]
  | cons p l ih =>
    obtain ⟨k, x⟩ := p
    simp only [delH]
    by_cases hk : n = k
    · subst hk
      simp only [if_true, ih, getH]
      by_cases hm : m = n <;> simp [hm]
    · simp only [if_neg hk, getH, ih]
      by_cases hm : m = k
      · subst hm; simp [Ne.symm hk]
      · simp [hm]

/-- Where a call began: the world, the environment, which blocks were its own. -/
structure Ent where
  w0 : World
  E0 : Env
  O : Nat → Prop
  glo : ∀ g l, gvals g = some l → ∀ o v, l[o]? = some v → E0.I g o = some v

def OwnR (w : World) (q : Real) : Prop := ∀ o, o < q.sz → (w.cell? ⟨q.r, o, none⟩).isSome = true ∧ w.frozen? ⟨q.r, o, none⟩ = false

def BlkRel (w : World) (E : Env) (B : Blk) (R : Option Real) : Prop :=
  (R = none ∧ B.k ≠ 0 ∧ B.cells = []) ∨ ∃ q, R = some q ∧ q.k = B.k ∧ q.base + B.cells.length ≤ q.sz ∧ OwnR w q ∧ RVl E B.cells (fun o => w.cell? ⟨q.r, o, none⟩) q.base

structure Gr (e : Ent) (E : Env) (w : World) : Prop where
  size : e.w0.heap.size ≤ w.heap.size
  frame : ∀ r, r < e.w0.heap.size → ¬ e.O r → w.heap[r]? = e.w0.heap[r]?
  os : w.os = e.w0.os
  tape : w.tape = e.w0.tape
  output : w.output = e.w0.output
  le : e.E0.Le E
  newI : ∀ r o v, E.I r o = some v → (∃ v', e.E0.I r o = some v') ∨ e.O r ∨ e.w0.heap.size ≤ r

structure SatH (e : Ent) (E : Env) (h : Heap) (w : World) : Prop where
  imm : ∀ r o v, E.I r o = some v → w.cell? ⟨r, o, none⟩ = some v
  live : ∀ b ver B, getH h b = some (ver, B) → ∃ R, E.ρ b = some (ver, R) ∧ BlkRel w E B R
  dead : ∀ b, getH h b = none → E.ρ b = none
  vers : ∀ b ver R, E.ρ b = some (ver, R) → ver ≤ E.c
  ownd : ∀ b ver q, E.ρ b = some (ver, some q) → q.r < w.heap.size ∧ (∀ o, E.I q.r o = none) ∧ (e.O q.r ∨ e.w0.heap.size ≤ q.r)
  apart : ∀ b b' ver ver' q q', E.ρ b = some (ver, some q) → E.ρ b' = some (ver', some q') → q.r = q'.r → b = b'
  gr : Gr e E w

/-- What the frame's slots hold. -/
def SatT (E : Env) (t : List (Nat × TV)) (tmps : Array Value) : Prop := ∀ n, RV E (getT t n) (tmps.getD n undef)

theorem SatT.mono {E E' : Env} {t : List (Nat × TV)} {tmps : Array Value} (h : SatT E t tmps) (hE : E.Le E') : SatT E' t tmps := fun n => (h n).mono hE _ _

theorem SatT.put {E : Env} {t : List (Nat × TV)} {tmps : Array Value} (h : SatT E t tmps) {d : Nat} (hd : d < tmps.size) {x : TV} {v : Value} (hx : RV E x v) : SatT E ((d, x) :: t) (tmps.setIfInBounds d v) := by
  intro n
  simp only [getT]
  by_cases hn : n = d
  · subst hn
    simp [Array.getD, hd]
    exact hx
  · simp only [if_neg hn]
    have := h n
    simp only [Array.getD_eq_getD_getElem?, Array.getElem?_setIfInBounds] at this ⊢
    rw [if_neg (Ne.symm hn)]
    exact this

end Go.Proofs.YtekmhdiajjfgfaaDoor.TL
