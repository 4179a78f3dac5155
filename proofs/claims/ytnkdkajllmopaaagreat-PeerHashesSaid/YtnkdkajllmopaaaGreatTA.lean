/- Own words, in one text: Ta Tb Tc Td Te Tf Tg. No program is named here. -/
import Derived.WalkKit
import Derived.Test.YtnkdkajllmopaaaGreatTgl
import Derived.Deep.AppendSrc
import Derived.Room.Entries
import Derived.Laws.Strings
import Derived.Laws.Slices
import Derived.Deep.Upon
import Derived.Laws.Tables
import Derived.MapKept
/- Own words: values as trees over numbered blocks of a call's own (and unchanging memory): what a world must hold for them to stand. No program is named here. -/
/- Own words: how a world that fits a state goes on: a draw, a new block, a store into an own block, an append, a block given up, a block that never changes any more. No program is named here. -/
/- Own words: what each operation does to a state (values as trees over numbered blocks), and that a world that fits the state goes on so. Part 1: what touches no memory, loads, stores. No program is named here. -/
/- Own words, part 2: the other operations that touch no memory. No program is named here. -/
/- Own words, part 3: elements, slices, new memory, lengths. No program is named here. -/
/- Own words, part 4: new memory, lengths, the least and the greatest, bytes of texts. No program is named here. -/
/- Own words, part 5: structs and rows out of parts, lengths, the least and the greatest, appends. No program is named here. -/
namespace Go.Proofs.YtnkdkajllmopaaaGreat.TL
open Go
set_option linter.unusedVariables false
set_option linter.unusedSimpArgs false

/-- A value: (mp: a map of the call's own,) itself, or an address in block b of the call's own (of its version ver) at cell o, or a slice there (n elements from cell o on), or a slice, an address in memory that never changes, an interface value, a function, a struct, a tuple, what is known where g holds, or nothing known. -/
inductive TV where
  | v (x : Value)
  | at (b ver o : Nat)
  | sl (b ver o n : Nat)
  | mp (b ver : Nat)
  | isl (cells : List TV) (n : Nat)
  | iat (cells : List TV)
  | ifc (t : Nat) (x : TV)
  | fn (f : Fn) (caps : List TV)
  | agg (l : List TV)
  | tup (l : List TV)
  | opt (g : Bool) (x : TV)
  | any

/-- Where a block lies: block r, from cell base on; its cells up to sz are the call's own; of a slice's row: k cells an element (0: no row). -/
structure Real where
  r : Nat
  base : Nat
  sz : Nat
  k : Nat

structure Env where
  I : Nat → Nat → Option Value
  ρ : Nat → Option (Nat × Option Real)
  c : Nat

/-- A block: k cells an element (0: no row), its cells. -/
structure Blk where
  k : Nat
  cells : List TV

mutual
def RV (E : Env) : TV → Value → Prop
  | .any, _ => True
  | .v x, y => y = x
  | .at b ver o, y => ∃ p, y = .pointer (some p) ∧ ver ≤ E.c ∧ ∀ R, E.ρ b = some (ver, R) → ∃ q, R = some q ∧ p = ⟨q.r, q.base + o, none⟩ ∧ (q.k = 0 ∨ q.base ≤ q.sz)
  | .mp b ver, y => ∃ r, y = .map (some r) ∧ ver ≤ E.c ∧ ∀ R, E.ρ b = some (ver, R) → ∃ q, R = some q ∧ q.r = r ∧ q.sz < q.base ∧ q.k = 1
  | .sl b ver o n, y => ∃ a cap, y = .slice a n cap ∧ n ≤ cap ∧ (a = none → cap = 0) ∧ ver ≤ E.c ∧ ∀ R, E.ρ b = some (ver, R) → (R = none ∧ n = 0 ∧ a = none ∧ cap = 0) ∨
      ∃ q a', R = some q ∧ a = some a' ∧ (cap = 0 ∨ a' = ⟨q.r, q.base + o, none⟩) ∧ (q.k ≠ 0 → q.base + o + cap * q.k = q.sz)
  | .isl cells n, y => (n = 0 ∧ cells = [] ∧ y = .slice none 0 0) ∨ ∃ a cap, y = .slice (some a) n cap ∧ n ≤ cap ∧ (cells = [] ∨ a.spot = none ∧ RVl E cells (E.I a.block) a.off)
  | .iat cells, y => ∃ a, y = .pointer (some a) ∧ a.spot = none ∧ RVl E cells (E.I a.block) a.off
  | .ifc t x, y => ∃ z, y = .iface t z ∧ RV E x z
  | .fn f caps, y => ∃ zs : List Value, y = .func f #[] zs.toArray ∧ zs.length = caps.length ∧ RVl E caps (fun o => zs[o]?) 0
  | .agg l, y => ∃ zs : List Value, y = .agg zs.toArray ∧ zs.length = l.length ∧ RVl E l (fun o => zs[o]?) 0
  | .tup l, y => ∃ zs : List Value, y = .tuple zs.toArray ∧ zs.length = l.length ∧ RVl E l (fun o => zs[o]?) 0
  | .opt g x, y => (g = true → RV E x y) ∧ (g = false → y = undef)
def RVl (E : Env) : List TV → (Nat → Option Value) → Nat → Prop
  | [], _, _ => True
  | x :: l, f, o => (∃ v, f o = some v ∧ RV E x v) ∧ RVl E l f (o + 1)
end

/-- A later environment: what stood stands; what is new bears a new version. -/
structure Env.Le (E E' : Env) : Prop where
  c : E.c ≤ E'.c
  I : ∀ r o v, E.I r o = some v → E'.I r o = some v
  ρ : ∀ b ver R, E'.ρ b = some (ver, R) → ver ≤ E.c → E.ρ b = some (ver, R)

theorem Env.Le.refl (E : Env) : E.Le E := ⟨Nat.le_refl _, fun _ _ _ h => h, fun _ _ _ h _ => h⟩
theorem Env.Le.trans {E E' E'' : Env} (h : E.Le E') (k : E'.Le E'') : E.Le E'' :=
  ⟨Nat.le_trans h.c k.c, fun r o v x => k.I r o v (h.I r o v x), fun b ver R x y => h.ρ b ver R (k.ρ b ver R x (Nat.le_trans y h.c)) y⟩

mutual
theorem RV.mono {E E' : Env} (h : E.Le E') : ∀ (x : TV) (y : Value), RV E x y → RV E' x y
  | .any, _, _ => trivial
  | .v _, _, hx => hx
  | .at _ _ _, _, ⟨p, h0, h1, h2⟩ => ⟨p, h0, Nat.le_trans h1 h.c, fun R hR => h2 R (h.ρ _ _ _ hR h1)⟩
  | .mp _ _, _, ⟨p, h0, h1, h2⟩ => ⟨p, h0, Nat.le_trans h1 h.c, fun R hR => h2 R (h.ρ _ _ _ hR h1)⟩
  | .sl _ _ _ _, _, ⟨a, cap, e0, e1, e2, h1, h2⟩ => ⟨a, cap, e0, e1, e2, Nat.le_trans h1 h.c, fun R hR => h2 R (h.ρ _ _ _ hR h1)⟩
  | .isl cells _, _, hx => by
    simp only [RV] at hx ⊢
    rcases hx with h0 | ⟨a, cap, h1, h2, h3⟩
    · exact .inl h0
    · refine .inr ⟨a, cap, h1, h2, ?_⟩
      rcases h3 with h3 | ⟨h3, h4⟩
      · exact .inl h3
      · exact .inr ⟨h3, RVl.mono h cells _ _ _ (fun o v => h.I _ o v) h4⟩
  | .iat cells, _, hx => by
    simp only [RV] at hx ⊢
    obtain ⟨a, h1, h3, h4⟩ := hx
    exact ⟨a, h1, h3, RVl.mono h cells _ _ _ (fun o v => h.I _ o v) h4⟩
  | .ifc _ x, _, hx => by
    simp only [RV] at hx ⊢
    obtain ⟨z, h1, h2⟩ := hx
    exact ⟨z, h1, RV.mono h x z h2⟩
  | .fn _ caps, _, hx => by
    simp only [RV] at hx ⊢
    obtain ⟨zs, h1, h2, h3⟩ := hx
    exact ⟨zs, h1, h2, RVl.mono h caps _ _ _ (fun _ _ x => x) h3⟩
  | .agg l, _, hx => by
    simp only [RV] at hx ⊢
    obtain ⟨zs, h1, h2, h3⟩ := hx
    exact ⟨zs, h1, h2, RVl.mono h l _ _ _ (fun _ _ x => x) h3⟩
  | .tup l, _, hx => by
    simp only [RV] at hx ⊢
    obtain ⟨zs, h1, h2, h3⟩ := hx
    exact ⟨zs, h1, h2, RVl.mono h l _ _ _ (fun _ _ x => x) h3⟩
  | .opt _ x, y, hx => by
    simp only [RV] at hx ⊢
    exact ⟨fun hg => RV.mono h x y (hx.1 hg), hx.2⟩
theorem RVl.mono {E E' : Env} (h : E.Le E') : ∀ (l : List TV) (f f' : Nat → Option Value) (o : Nat), (∀ o v, f o = some v → f' o = some v) → RVl E l f o → RVl E' l f' o
  | [], _, _, _, _, _ => by simp only [RVl]
  | x :: l, f, f', o, hf, hx => by
    simp only [RVl] at hx ⊢
    obtain ⟨⟨v, h1, h2⟩, h3⟩ := hx
    exact ⟨⟨v, hf _ _ h1, RV.mono h x v h2⟩, RVl.mono h l f f' (o + 1) hf h3⟩
end

theorem RVl.get {E : Env} : ∀ {l : List TV} {f : Nat → Option Value} {o : Nat}, RVl E l f o → ∀ (j : Nat) (x : TV), l[j]? = some x → ∃ v, f (o + j) = some v ∧ RV E x v
  | x :: l, f, o, h, 0, y, hy => by
    simp only [RVl] at h
    simp at hy
    subst hy
    exact h.1
  | x :: l, f, o, h, j + 1, y, hy => by
    simp only [RVl] at h
    simp at hy
    obtain ⟨v, h1, h2⟩ := RVl.get h.2 j y hy
    exact ⟨v, by rw [← h1]; congr 1; omega, h2⟩

theorem RVl.of {E : Env} : ∀ {l : List TV} {f : Nat → Option Value} {o : Nat}, (∀ (j : Nat) (x : TV), l[j]? = some x → ∃ v, f (o + j) = some v ∧ RV E x v) → RVl E l f o
  | [], _, _, _ => by simp only [RVl]
  | x :: l, f, o, h => by
    simp only [RVl]
    exact ⟨by simpa using h 0 x rfl, RVl.of fun j y hy => by obtain ⟨v, h1, h2⟩ := h (j + 1) y (by simpa using hy); exact ⟨v, by rw [← h1]; congr 1; omega, h2⟩⟩

theorem RVl_iff {E : Env} {l : List TV} {f : Nat → Option Value} {o : Nat} : RVl E l f o ↔ ∀ (j : Nat) (x : TV), l[j]? = some x → ∃ v, f (o + j) = some v ∧ RV E x v := ⟨fun h => h.get, RVl.of⟩

theorem RVl.drop {E : Env} {l : List TV} {f : Nat → Option Value} {o : Nat} (h : RVl E l f o) (k : Nat) : RVl E (l.drop k) f (o + k) :=
  RVl.of fun j x hx => by
    rw [List.getElem?_drop] at hx
    obtain ⟨v, h1, h2⟩ := h.get _ x hx
    exact ⟨v, by rw [← h1]; congr 1; omega, h2⟩

theorem RVl.take {E : Env} {l : List TV} {f : Nat → Option Value} {o : Nat} (h : RVl E l f o) (k : Nat) : RVl E (l.take k) f o :=
  RVl.of fun j x hx => by
    rw [List.getElem?_take] at hx
    split at hx
    · exact h.get _ x hx
    · cases hx

theorem RVl.append {E : Env} {l l' : List TV} {f : Nat → Option Value} {o : Nat} (h : RVl E l f o) (h' : RVl E l' f (o + l.length)) : RVl E (l ++ l') f o :=
  RVl.of fun j x hx => by
    rw [List.getElem?_append] at hx
    split at hx
    · exact h.get _ x hx
    · obtain ⟨v, h1, h2⟩ := h'.get _ x hx
      exact ⟨v, by rw [← h1]; congr 1; omega, h2⟩

/-- The values behind known cells. -/
theorem RVl.vals {E : Env} : ∀ {l : List TV} {f : Nat → Option Value} {o : Nat}, RVl E l f o → ∃ zs : List Value, zs.length = l.length ∧ (∀ (j : Nat) (z : Value), zs[j]? = some z → f (o + j) = some z) ∧ RVl E l (fun i => zs[i]?) 0
  | [], _, _, _ => ⟨[], rfl, fun _ _ h => by simp at h, by simp only [RVl]⟩
  | x :: l, f, o, h => by
    have h' := h
    simp only [RVl] at h'
    obtain ⟨⟨v, h1, h2⟩, h3⟩ := h'
    obtain ⟨zs, e1, e2, e3⟩ := RVl.vals h3
    refine ⟨v :: zs, by simp [e1], fun j z hz => ?_, RVl.of fun j y hy => ?_⟩
    · cases j with
      | zero => simp at hz; subst hz; simpa using h1
      | succ j => simp at hz; rw [← e2 j z hz]; congr 1; omega
    · cases j with
      | zero => simp at hy; subst hy; exact ⟨v, by simp, h2⟩
      | succ j => simp at hy; obtain ⟨u, k1, k2⟩ := e3.get j y hy; exact ⟨u, by simpa using k1, k2⟩

abbrev Heap := List (Nat × Nat × Blk)
def getT : List (Nat × TV) → Nat → TV
  | [], _ => .any
  | (k, x) :: l, n => if n = k then x else getT l n
def getH : Heap → Nat → Option (Nat × Blk)
  | [], _ => none
  | (k, x) :: l, n => if n = k then some x else getH l n
def setH : Heap → Nat → Nat × Blk → Heap
  | [], n, y => [(n, y)]
  | (k, x) :: l, n, y => if n = k then (n, y) :: l else (k, x) :: setH l n y
def delH : Heap → Nat → Heap
  | [], _ => []
  | (k, x) :: l, n => if n = k then delH l n else (k, x) :: delH l n

theorem getH_setH (h : Heap) (n : Nat) (y : Nat × Blk) (m : Nat) : getH (setH h n y) m = if m = n then some y else getH h m := by
  induction h with
  | nil => simp [setH, getH]
  | cons p l ih =>
    obtain ⟨k, x⟩ := p
    simp only [setH]
    by_cases hk : n = k
    · subst hk
      simp only [if_true, getH]
      by_cases hm : m = n <;> simp [hm]
    · simp only [if_neg hk, getH, ih]
      by_cases hm : m = k
      · subst hm; simp [Ne.symm hk]
      · simp [hm]
theorem getH_delH (h : Heap) (n m : Nat) : getH (delH h n) m = if m = n then none else getH h m := by
  induction h with
  | nil => simp [delH, getH]
  | cons p l ih =>
    obtain ⟨k, x⟩ := p
    simp only [delH]
    by_cases hk : n = k
    · subst hk
      simp only [if_true, ih, getH]
      by_cases hm : m = n <;> simp [hm]
    · simp only [if_neg hk, getH, ih]
      by_cases hm : m = k
      · subst hm; simp [Ne.symm hk]
      · simp [hm]

/-- Where a call began: the world, the environment, which blocks were its own. -/
structure Ent where
  w0 : World
  E0 : Env
  O : Nat → Prop
  glo : ∀ g l, gvals g = some l → ∀ o v, l[o]? = some v → E0.I g o = some v

def OwnR (w : World) (q : Real) : Prop := ∀ o, o < q.sz → (w.cell? ⟨q.r, o, none⟩).isSome = true ∧ w.frozen? ⟨q.r, o, none⟩ = false

def BlkOld (w : World) (E : Env) (B : Blk) (R : Option Real) : Prop :=
  (R = none ∧ B.k ≠ 0 ∧ B.cells = []) ∨ ∃ q, R = some q ∧ q.k = B.k ∧ q.base + B.cells.length ≤ q.sz ∧ OwnR w q ∧ RVl E B.cells (fun o => w.cell? ⟨q.r, o, none⟩) q.base

/-- An entry of a map. -/
def entV (e : MapEntry) : Value := .tuple #[e.key, e.val]
/-- A map of these entries. -/
def MapOf (w : World) (E : Env) (cells : List TV) (q : Real) : Prop :=
  (q.k = 1 ∧ q.base = 1 ∧ q.sz = 0) ∧ ∃ es clock, w.heap[q.r]? = some (.map es clock) ∧ MapKept.Stamped es clock ∧ es.size = cells.length ∧ RVl E cells (fun o => es[o]?.map entV) 0
def BlkRel (w : World) (E : Env) (B : Blk) (R : Option Real) : Prop := BlkOld w E B R ∨ (B.k = 0 ∧ ∃ q, R = some q ∧ MapOf w E B.cells q)
theorem BlkRel.at {w : World} {E : Env} {B : Blk} {q : Real} (h : BlkRel w E B (some q)) (hq : q.k = 0 ∨ q.base ≤ q.sz) : BlkOld w E B (some q) := by
  rcases h with h | ⟨_, q', e, ⟨h1, h2, h3⟩, _⟩
  · exact h
  · cases e; omega
theorem BlkRel.sl {w : World} {E : Env} {B : Blk} {q : Real} {o c : Nat} (h : BlkRel w E B (some q)) (hq : q.k ≠ 0 → q.base + o + c * q.k = q.sz) : BlkOld w E B (some q) := by
  rcases h with h | ⟨_, q', e, ⟨h1, h2, h3⟩, _⟩
  · exact h
  · cases e; have := hq (by omega); omega
theorem BlkRel.no {w : World} {E : Env} {B : Blk} (h : BlkRel w E B none) : BlkOld w E B none := by
  rcases h with h | ⟨_, q', e, _⟩
  · exact h
  · cases e
theorem real_nm {q : Real} {o c : Nat} (hq : q.k ≠ 0 → q.base + o + c * q.k = q.sz) : q.k = 0 ∨ q.base ≤ q.sz := by
  by_cases h : q.k = 0
  · exact .inl h
  · have := hq h; exact .inr (by omega)

structure Gr (e : Ent) (E : Env) (w : World) : Prop where
  size : e.w0.heap.size ≤ w.heap.size
  frame : ∀ r, r < e.w0.heap.size → ¬ e.O r → w.heap[r]? = e.w0.heap[r]?
  os : w.os = e.w0.os
  tape : w.tape = e.w0.tape
  output : w.output = e.w0.output
  le : e.E0.Le E
  newI : ∀ r o v, E.I r o = some v → (∃ v', e.E0.I r o = some v') ∨ e.O r ∨ e.w0.heap.size ≤ r

structure SatH (e : Ent) (E : Env) (h : Heap) (w : World) : Prop where
  imm : ∀ r o v, E.I r o = some v → w.cell? ⟨r, o, none⟩ = some v
  live : ∀ b ver B, getH h b = some (ver, B) → ∃ R, E.ρ b = some (ver, R) ∧ BlkRel w E B R
  dead : ∀ b, getH h b = none → E.ρ b = none
  vers : ∀ b ver R, E.ρ b = some (ver, R) → ver ≤ E.c
  ownd : ∀ b ver q, E.ρ b = some (ver, some q) → q.r < w.heap.size ∧ (∀ o, E.I q.r o = none) ∧ (e.O q.r ∨ e.w0.heap.size ≤ q.r)
  apart : ∀ b b' ver ver' q q', E.ρ b = some (ver, some q) → E.ρ b' = some (ver', some q') → q.r = q'.r → b = b'
  gr : Gr e E w

/-- What the frame's slots hold. -/
def SatT (E : Env) (t : List (Nat × TV)) (tmps : Array Value) : Prop := ∀ n, RV E (getT t n) (tmps.getD n undef)

theorem SatT.mono {E E' : Env} {t : List (Nat × TV)} {tmps : Array Value} (h : SatT E t tmps) (hE : E.Le E') : SatT E' t tmps := fun n => (h n).mono hE _ _

theorem SatT.put {E : Env} {t : List (Nat × TV)} {tmps : Array Value} (h : SatT E t tmps) {d : Nat} (hd : d < tmps.size) {x : TV} {v : Value} (hx : RV E x v) : SatT E ((d, x) :: t) (tmps.setIfInBounds d v) := by
  intro n
  simp only [getT]
  by_cases hn : n = d
  · subst hn
    simp [Array.getD, hd]
    exact hx
  · simp only [if_neg hn]
    have := h n
    simp only [Array.getD_eq_getD_getElem?, Array.getElem?_setIfInBounds] at this ⊢
    rw [if_neg (Ne.symm hn)]
    exact this

end Go.Proofs.YtnkdkajllmopaaaGreat.TL

namespace Go.Proofs.YtnkdkajllmopaaaGreat.TL
open Go
set_option linter.unusedVariables false
set_option linter.unusedSimpArgs false

theorem heap_alloc_lt (w : World) (o : Obj) (k : Nat) (h : k < w.heap.size) : (w.alloc o).heap[k]? = w.heap[k]? := by
  show (w.heap.push o)[k]? = _
  rw [Array.getElem?_push, if_neg (by omega)]

theorem heap_setCells_ne (b : Nat) : ∀ (vs : List Value) (o : Nat) (w : World) (r : Nat), r ≠ b → (w.setCells b o vs).heap[r]? = w.heap[r]?
  | [], _, _, _, _ => rfl
  | v :: l, o, w, r, h => by
    rw [World.setCells, heap_setCells_ne b l _ _ r h]
    simp only [World.setCell, Array.getElem?_modify]
    rw [if_neg (Ne.symm h)]

theorem size_setCells (b : Nat) : ∀ (vs : List Value) (o : Nat) (w : World), (w.setCells b o vs).heap.size = w.heap.size
  | [], _, _ => rfl
  | v :: l, o, w => by rw [World.setCells, size_setCells b l]; simp
theorem rest_setCells (b : Nat) : ∀ (vs : List Value) (o : Nat) (w : World), (w.setCells b o vs).os = w.os ∧ (w.setCells b o vs).tape = w.tape ∧ (w.setCells b o vs).output = w.output
  | [], _, _ => ⟨rfl, rfl, rfl⟩
  | v :: l, o, w => by
    obtain ⟨h1, h2, h3⟩ := rest_setCells b l (o + 1) (w.setCell ⟨b, o, none⟩ v)
    exact ⟨h1, h2, h3⟩

theorem cell_lt {w : World} {r o : Nat} {v : Value} (h : w.cell? ⟨r, o, none⟩ = some v) : r < w.heap.size := World.block_lt_of_cell? w _ h

theorem BlkRel.mono {w w' : World} {E E' : Env} {B : Blk} {R : Option Real} (hE : E.Le E') (hw : ∀ q, R = some q → w'.heap[q.r]? = w.heap[q.r]?)
    (h : BlkRel w E B R) : BlkRel w' E' B R := by
  rcases h with (h | ⟨q, h1, h2, h3, h4, h5⟩) | ⟨k0, q, h1, h2, es, cl, h3, h4, h6, h7⟩
  · exact .inl (.inl h)
  · have hc : ∀ o, w'.cell? ⟨q.r, o, none⟩ = w.cell? ⟨q.r, o, none⟩ ∧ w'.frozen? ⟨q.r, o, none⟩ = w.frozen? ⟨q.r, o, none⟩ := fun o => by
      simp only [World.cell?, World.frozen?, hw q h1, and_self]
    refine .inl (.inr ⟨q, h1, h2, h3, fun o ho => ?_, RVl.mono hE _ _ _ _ (fun o v hv => ?_) h5⟩)
    · rw [(hc o).1, (hc o).2]; exact h4 o ho
    · rw [(hc o).1]; exact hv
  · exact .inr ⟨k0, q, h1, h2, es, cl, by rw [hw q h1]; exact h3, h4, h6, RVl.mono hE _ _ _ _ (fun _ _ x => x) h7⟩
/-- Other words for a block's cells. -/
theorem BlkRel.conv {w : World} {E E' : Env} {B B' : Blk} {R : Option Real} (hk : B'.k = B.k) (hl : B'.cells.length = B.cells.length) (hr : ∀ f o, RVl E B.cells f o → RVl E' B'.cells f o) (h : BlkRel w E B R) : BlkRel w E' B' R := by
  rcases h with (⟨h1, h2, h3⟩ | ⟨q, h1, h2, h3, h4, h5⟩) | ⟨k0, q, h1, h2, es, cl, h3, h4, h6, h7⟩
  · exact .inl (.inl ⟨h1, by rw [hk]; exact h2, List.eq_nil_of_length_eq_zero (by rw [hl, h3]; rfl)⟩)
  · exact .inl (.inr ⟨q, h1, by rw [hk]; exact h2, by rw [hl]; exact h3, h4, hr _ _ h5⟩)
  · exact .inr ⟨by rw [hk]; exact k0, q, h1, h2, es, cl, h3, h4, by rw [hl]; exact h6, hr _ _ h7⟩

section
variable {e : Ent} {E : Env} {h : Heap} {w : World}

theorem SatH.drew (H : SatH e E h w) : SatH e E h w.drew :=
  ⟨H.imm, fun b ver B hb => let ⟨R, h1, h2⟩ := H.live b ver B hb; ⟨R, h1, h2.mono (Env.Le.refl _) fun _ _ => rfl⟩, H.dead, H.vers, H.ownd, H.apart,
    ⟨H.gr.size, H.gr.frame, H.gr.os, H.gr.tape, H.gr.output, H.gr.le, H.gr.newI⟩⟩

/-- The environment behind a slot's new place. -/
def Env.slot (E : Env) (b : Nat) (R : Option Real) : Env := { I := E.I, ρ := fun x => if x = b then some (E.c + 1, R) else E.ρ x, c := E.c + 1 }

theorem SatH.le_slot (H : SatH e E h w) (b : Nat) (R : Option Real) : E.Le (E.slot b R) :=
  ⟨Nat.le_succ _, fun _ _ _ x => x, fun x ver R' hx hv => by
    simp only [Env.slot] at hx
    split at hx
    · cases hx; exact absurd hv (by have := E.c; omega)
    · exact hx⟩

/-- A slot's new block (new memory, or the old block from another cell on). -/
theorem SatH.slot (H : SatH e E h w) (b : Nat) (B : Blk) (R : Option Real) (w' : World) (hsz : w.heap.size ≤ w'.heap.size)
    (hold : ∀ r, r < w.heap.size → (∀ ver q, E.ρ b = some (ver, some q) → ∀ q', R = some q' → q'.r = q.r → r ≠ q.r) → w'.heap[r]? = w.heap[r]?)
    (hos : w'.os = w.os) (htape : w'.tape = w.tape) (hout : w'.output = w.output)
    (hR : ∀ q, R = some q → q.r < w'.heap.size ∧ ((∃ ver q0, E.ρ b = some (ver, some q0) ∧ q0.r = q.r) ∨ w.heap.size ≤ q.r))
    (hB : BlkRel w' (E.slot b R) B R) : SatH e (E.slot b R) (setH h b (E.c + 1, B)) w' := by
  have hle := H.le_slot b R
  have hcell : ∀ r, r < w.heap.size → (∀ ver q, E.ρ b = some (ver, some q) → ∀ q', R = some q' → q'.r = q.r → r ≠ q.r) → ∀ o, w'.cell? ⟨r, o, none⟩ = w.cell? ⟨r, o, none⟩ ∧ w'.frozen? ⟨r, o, none⟩ = w.frozen? ⟨r, o, none⟩ := fun r hr hn o => by
    simp only [World.cell?, World.frozen?, hold r hr hn, and_self]
  refine ⟨?_, ?_, ?_, ?_, ?_, ?_, ?_⟩
  · intro r o v hv
    have h1 := H.imm r o v hv
    rw [(hcell r (cell_lt h1) (fun ver q hq q' _ _ => ?_) o).1, h1]
    rintro rfl
    have := (H.ownd b ver q hq).2.1 o
    simp only [Env.slot] at hv
    rw [this] at hv
    cases hv
  · intro x ver B' hx
    rw [getH_setH] at hx
    by_cases hxb : x = b
    · subst hxb
      rw [if_pos rfl] at hx
      cases hx
      exact ⟨R, by simp [Env.slot], hB⟩
    · rw [if_neg hxb] at hx
      obtain ⟨R', h1, h2⟩ := H.live x ver B' hx
      refine ⟨R', by simp [Env.slot, hxb, h1], h2.mono hle fun q hq => hold q.r (H.ownd x ver q (hq ▸ h1)).1 (fun ver' q' hq' _ _ _ e => hxb (H.apart _ _ _ _ _ _ (hq ▸ h1) hq' e))⟩
  · intro x hx
    rw [getH_setH] at hx
    by_cases hxb : x = b
    · rw [if_pos hxb] at hx; cases hx
    · rw [if_neg hxb] at hx; simp [Env.slot, hxb, H.dead x hx]
  · intro x ver R' hx
    simp only [Env.slot] at hx ⊢
    split at hx
    · cases hx; exact Nat.le_refl _
    · exact Nat.le_succ_of_le (H.vers x ver R' hx)
  · intro x ver q hx
    simp only [Env.slot] at hx ⊢
    split at hx
    · cases hx
      obtain ⟨h1, h2⟩ := hR q rfl
      refine ⟨h1, ?_, ?_⟩
      · rcases h2 with ⟨ver', q0, h3, h4⟩ | h3
        · rw [← h4]; exact (H.ownd _ _ _ h3).2.1
        · intro o
          cases hI : E.I q.r o with
          | none => rfl
          | some v => exact absurd (cell_lt (H.imm _ _ _ hI)) (by omega)
      · rcases h2 with ⟨ver', q0, h3, h4⟩ | h3
        · rw [← h4]; exact (H.ownd _ _ _ h3).2.2
        · exact .inr (Nat.le_trans H.gr.size h3)
    · obtain ⟨h1, h2, h3⟩ := H.ownd x ver q hx
      exact ⟨Nat.lt_of_lt_of_le h1 hsz, h2, h3⟩
  · intro x y ver ver' q q' hx hy hr
    simp only [Env.slot] at hx hy
    by_cases hxb : x = b <;> by_cases hyb : y = b
    · rw [hxb, hyb]
    · rw [if_pos hxb] at hx; rw [if_neg hyb] at hy
      cases hx
      exfalso
      rcases (hR q rfl).2 with ⟨v0, q0, h3, h4⟩ | h3
      · exact hyb (H.apart _ _ _ _ _ _ hy h3 (by rw [← hr, h4]))
      · have := (H.ownd _ _ _ hy).1; omega
    · rw [if_neg hxb] at hx; rw [if_pos hyb] at hy
      cases hy
      exfalso
      rcases (hR q' rfl).2 with ⟨v0, q0, h3, h4⟩ | h3
      · exact hxb (H.apart _ _ _ _ _ _ hx h3 (by rw [hr, h4]))
      · have := (H.ownd _ _ _ hx).1; omega
    · rw [if_neg hxb] at hx; rw [if_neg hyb] at hy
      exact H.apart _ _ _ _ _ _ hx hy hr
  · refine ⟨Nat.le_trans H.gr.size hsz, fun r hr hO => ?_, hos.trans H.gr.os, htape.trans H.gr.tape, hout.trans H.gr.output, H.gr.le.trans hle, H.gr.newI⟩
    rw [hold r (Nat.lt_of_lt_of_le hr H.gr.size) (fun ver q hq _ _ _ e => ?_), H.gr.frame r hr hO]
    rcases (H.ownd _ _ _ hq).2.2 with h1 | h1
    · exact hO (e ▸ h1)
    · omega

/-- New memory for a slot. -/
theorem SatH.alloc (H : SatH e E h w) (b k : Nat) (cells : List TV) (arr : Array Value) (T : TypeId) (hl : cells.length ≤ arr.size) (hv : RVl E cells (fun i => arr[i]?) 0) :
    SatH e (E.slot b (some ⟨w.heap.size, 0, arr.size, k⟩)) (setH h b (E.c + 1, ⟨k, cells⟩)) (w.alloc (.cells arr T)) := by
  refine H.slot b ⟨k, cells⟩ _ _ (by simp) (fun r hr _ => heap_alloc_lt _ _ _ hr) rfl rfl rfl (fun q hq => ?_) (.inl (.inr ⟨_, rfl, rfl, by simpa using hl, fun o ho => ?_, ?_⟩))
  · cases hq; exact ⟨by simp, .inr (Nat.le_refl _)⟩
  · simp only [World.cell?_alloc_new, World.frozen?_alloc_new]
    exact ⟨by simpa using ho, trivial⟩
  · refine RVl.mono (H.le_slot b _) _ _ _ _ (fun o v ho => ?_) hv
    simpa using ho

/-- A slot without memory: a slice of no elements that nobody made. -/
theorem SatH.nil (H : SatH e E h w) (b k : Nat) (hk : k ≠ 0) : SatH e (E.slot b none) (setH h b (E.c + 1, ⟨k, []⟩)) w :=
  H.slot b ⟨k, []⟩ none w (Nat.le_refl _) (fun _ _ _ => rfl) rfl rfl rfl (fun _ hq => by cases hq) (.inl (.inl ⟨rfl, hk, rfl⟩))

def over (cells : List TV) (o : Nat) (new : List TV) : List TV := cells.take o ++ new ++ cells.drop (o + new.length)

theorem over_length {cells new : List TV} {o : Nat} (h : o + new.length ≤ cells.length) : (over cells o new).length = cells.length := by
  simp only [over, List.length_append, List.length_take, List.length_drop]; omega

theorem RVl.over {E : Env} {cells new : List TV} {f f' : Nat → Option Value} {b o : Nat} (h : RVl E cells f b) (hn : RVl E new f' (b + o)) (hl : o + new.length ≤ cells.length)
    (hf : ∀ j, j < o ∨ o + new.length ≤ j → f' (b + j) = f (b + j)) : RVl E (over cells o new) f' b := by
  refine RVl.of fun j x hx => ?_
  unfold TL.over at hx
  rw [List.append_assoc, List.getElem?_append, List.length_take] at hx
  split at hx
  · rename_i hj
    rw [List.getElem?_take] at hx
    split at hx
    · rw [hf j (.inl (by omega))]; exact h.get j x hx
    · cases hx
  · rename_i hj
    rw [List.getElem?_append] at hx
    split at hx
    · obtain ⟨v, h1, h2⟩ := hn.get _ x hx
      exact ⟨v, by rw [← h1]; congr 1; omega, h2⟩
    · rename_i hj2
      rw [List.getElem?_drop] at hx
      rw [hf j (.inr (by omega))]
      have : o + new.length + (j - min o cells.length - new.length) = j := by omega
      rw [this] at hx
      exact h.get j x hx

/-- A store into cells of an own block. -/
theorem SatH.store (H : SatH e E h w) {b ver : Nat} {B : Blk} {q : Real} (hb : getH h b = some (ver, B)) (hq : E.ρ b = some (ver, some q)) (hnm : q.k = 0 ∨ q.base ≤ q.sz) {o : Nat} {new : List TV} {vs : List Value} (hl : o + new.length ≤ B.cells.length) (hlv : vs.length = new.length)
    (hv : RVl E new (fun i => vs[i]?) 0) : SatH e E (setH h b (ver, ⟨B.k, over B.cells o new⟩)) (w.setCells q.r (q.base + o) vs) := by
  obtain ⟨R, hR, hB⟩ := H.live b ver B hb
  rw [hq] at hR
  obtain rfl : R = some q := by simpa using hR.symm
  replace hB := hB.at hnm
  rcases hB with ⟨h0, _, _⟩ | ⟨q', h1, h2, h3, h4, h5⟩
  · cases h0
  obtain rfl : q = q' := by simpa using h1
  have hin := World.cell?_setCells_in q.r vs (q.base + o) w (fun j hj => (h4 _ (by omega)).1)
  have hout : ∀ i, (i < q.base + o ∨ q.base + o + vs.length ≤ i) → (w.setCells q.r (q.base + o) vs).cell? ⟨q.r, i, none⟩ = w.cell? ⟨q.r, i, none⟩ := fun i hi =>
    World.cell?_setCells_out q.r vs (q.base + o) w ⟨q.r, i, none⟩ (fun _ _ => hi)
  have hother : ∀ r, r ≠ q.r → ∀ i, (w.setCells q.r (q.base + o) vs).cell? ⟨r, i, none⟩ = w.cell? ⟨r, i, none⟩ := fun r hr i =>
    World.cell?_setCells_out q.r vs (q.base + o) w ⟨r, i, none⟩ (fun hh _ => absurd hh hr)
  refine ⟨?_, ?_, ?_, H.vers, ?_, H.apart, ?_⟩
  · intro r i v hI
    rw [hother r (fun hr => by have := (H.ownd _ _ _ hq).2.1 i; rw [← hr, hI] at this; cases this)]
    exact H.imm r i v hI
  · intro x ver' B' hx
    rw [getH_setH] at hx
    by_cases hxb : x = b
    · subst hxb
      rw [if_pos rfl] at hx
      cases hx
      refine ⟨some q, hq, .inl (.inr ⟨q, rfl, h2, by rw [over_length hl]; exact h3, fun i hi => ?_, ?_⟩)⟩
      · rw [World.frozen?_setCells]
        refine ⟨?_, (h4 i hi).2⟩
        by_cases hin' : q.base + o ≤ i ∧ i < q.base + o + vs.length
        · have := hin (i - (q.base + o)) (by omega)
          rw [show q.base + o + (i - (q.base + o)) = i by omega] at this
          rw [this]; rfl
        · rw [hout i (by omega)]; exact (h4 i hi).1
      · refine RVl.over h5 (RVl.of fun j x hj => ?_) hl (fun j hj => hout _ (by omega))
        obtain ⟨v, k1, k2⟩ := hv.get j x hj
        rw [Nat.zero_add] at k1
        obtain ⟨hj', rfl⟩ := List.getElem?_eq_some_iff.1 k1
        exact ⟨_, hin j hj', k2⟩
    · rw [if_neg hxb] at hx
      obtain ⟨R', k1, k2⟩ := H.live x ver' B' hx
      exact ⟨R', k1, k2.mono (Env.Le.refl _) fun q' hq' => heap_setCells_ne _ _ _ _ _ (fun hr => hxb (H.apart _ _ _ _ _ _ (hq' ▸ k1) hq hr))⟩
  · intro x hx
    rw [getH_setH] at hx
    by_cases hxb : x = b
    · rw [if_pos hxb] at hx; cases hx
    · rw [if_neg hxb] at hx; exact H.dead x hx
  · intro x ver' q' hx
    rw [size_setCells]
    exact H.ownd x ver' q' hx
  · obtain ⟨r1, r2, r3⟩ := rest_setCells q.r vs (q.base + o) w
    refine ⟨by rw [size_setCells]; exact H.gr.size, fun r hr hO => ?_, r1.trans H.gr.os, r2.trans H.gr.tape, r3.trans H.gr.output, H.gr.le, H.gr.newI⟩
    rw [heap_setCells_ne _ _ _ _ _ (fun hh => ?_)]
    · exact H.gr.frame r hr hO
    · rcases (H.ownd _ _ _ hq).2.2 with k | k
      · exact hO (hh ▸ k)
      · omega

/-- A slot given up. -/
def Env.del (E : Env) (b : Nat) : Env := { E with ρ := fun x => if x = b then none else E.ρ x }
theorem Env.le_del (E : Env) (b : Nat) : E.Le (E.del b) := ⟨Nat.le_refl _, fun _ _ _ x => x, fun x ver R hx _ => by
  simp only [Env.del] at hx
  split at hx
  · cases hx
  · exact hx⟩
theorem SatH.del (H : SatH e E h w) (b : Nat) : SatH e (E.del b) (delH h b) w := by
  have hρ : ∀ x y, (E.del b).ρ x = some y → x ≠ b ∧ E.ρ x = some y := fun x y hx => by
    simp only [Env.del] at hx
    split at hx
    · cases hx
    · exact ⟨‹_›, hx⟩
  refine ⟨H.imm, fun x ver B hx => ?_, fun x hx => ?_, fun x ver R hx => H.vers x ver R (hρ _ _ hx).2, fun x ver q hx => H.ownd x ver q (hρ _ _ hx).2, fun x y ver ver' q q' hx hy => H.apart x y ver ver' q q' (hρ _ _ hx).2 (hρ _ _ hy).2, ?_⟩
  · rw [getH_delH] at hx
    split at hx
    · cases hx
    · obtain ⟨R, h1, h2⟩ := H.live x ver B hx
      exact ⟨R, by simp [Env.del, *], h2.mono (Env.le_del E b) fun _ _ => rfl⟩
  · rw [getH_delH] at hx
    simp only [Env.del]
    split
    · rfl
    · rw [if_neg ‹_›] at hx; exact H.dead x hx
  · exact ⟨H.gr.size, H.gr.frame, H.gr.os, H.gr.tape, H.gr.output, H.gr.le.trans (Env.le_del E b), H.gr.newI⟩

end
end Go.Proofs.YtnkdkajllmopaaaGreat.TL

namespace Go.Proofs.YtnkdkajllmopaaaGreat.TL
open Go
set_option linter.unusedVariables false
set_option linter.unusedSimpArgs false

structure TS where
  t : List (Nat × TV)
  h : Heap

/-- A text of these bytes. -/
def bs (l : List UInt8) : ByteArray := ⟨l.toArray⟩
/-- A text's bytes. -/
def sl (s : ByteArray) : List UInt8 := s.data.toList
@[simp] theorem sl_bs (l : List UInt8) : sl (bs l) = l := by simp [sl, bs]
@[simp] theorem sl_mk (a : Array UInt8) : sl ⟨a⟩ = a.toList := rfl
@[simp] theorem bs_sl (s : ByteArray) : bs (sl s) = s := by cases s; simp [sl, bs]
@[simp] theorem size_bs (l : List UInt8) : (bs l).size = l.length := by simp [bs, ByteArray.size]
theorem size_sl (s : ByteArray) : s.size = (sl s).length := by cases s; simp [sl, ByteArray.size]
theorem bs_inj {l l' : List UInt8} : bs l = bs l' ↔ l = l' := ⟨fun h => by rw [← sl_bs l, h, sl_bs], fun h => by rw [h]⟩
theorem sl_inj {s s' : ByteArray} : sl s = sl s' ↔ s = s' := ⟨fun h => by rw [← bs_sl s, h, bs_sl], fun h => by rw [h]⟩

def TS.ev (s : TS) : Operand → TV
  | .tmp t => getT s.t t
  | .const v => .v v
  | .global g => match gvals g with | some l => .iat (l.map .v) | none => .v (.pointer (some ⟨g, 0, none⟩))
  | .func f => .v (.func (.func f) #[] #[])

theorem SatH.glo {e : Ent} {E : Env} {h : Heap} {w : World} (H : SatH e E h w) : ∀ g l, gvals g = some l → ∀ o v, l[o]? = some v → E.I g o = some v := fun g l hg o v hv => H.gr.le.I g o v (e.glo g l hg o v hv)
theorem RVl_vals {E : Env} {f : Nat → Option Value} : ∀ (l : List Value) (o : Nat), (∀ k v, l[k]? = some v → f (o + k) = some v) → RVl E (l.map .v) f o
  | [], o, h => by simp [RVl]
  | v :: l, o, h => by
    simp only [List.map_cons, RVl]
    refine ⟨⟨v, by simpa using h 0 v rfl, by simp only [RV]⟩, RVl_vals l (o + 1) fun k x hx => ?_⟩
    rw [show o + 1 + k = o + (k + 1) by omega]
    exact h (k + 1) x (by simpa using hx)
theorem ev_sound {E : Env} {s : TS} {a : Act} (hG : ∀ g l, gvals g = some l → ∀ o v, l[o]? = some v → E.I g o = some v) (hT : SatT E s.t a.tmps) (x : Operand) : RV E (s.ev x) (a.eval x) := by
  cases x with
  | tmp t => exact hT t
  | global g =>
    simp only [TS.ev, Act.eval]
    split
    · rename_i l hl
      simp only [RV]
      exact ⟨_, rfl, rfl, RVl_vals l 0 fun k v hv => by rw [Nat.zero_add]; exact hG g l hl k v hv⟩
    · simp only [RV]
  | _ => simp only [TS.ev, Act.eval, RV]

def szOf (P : Program) (t : Nat) : Nat := ((P.info? t).map (·.size)).getD 0
def byOf (P : Program) (t : Nat) : Nat := ((P.info? t).map (·.bytes)).getD 0
def zeroOf (P : Program) (t : Nat) : Option (List Value) := ((P.info? t).bind (·.zero)).map (·.cells.toList)
def isAg (P : Program) (t : Nat) : Bool := match P.underlying t with | some (.struct _) | some (.array _ _) => true | _ => false
def hasU (P : Program) (t : Nat) : Bool := (P.underlying t).isSome

theorem run_szOf {P : Program} {t : Nat} (h : 0 < szOf P t) (w : World) : (sizeOf t).run P w = .ok (szOf P t) w := by
  unfold szOf at h ⊢
  cases hi : P.info? t with
  | none => rw [hi] at h; simp at h
  | some i => simp [sizeOf, typeInfo, hi]
theorem run_isAg {P : Program} {t : Nat} (h : hasU P t = true) (w : World) : (isAgg t).run P w = .ok (isAg P t) w := by
  unfold hasU at h
  obtain ⟨d, hd⟩ := Option.isSome_iff_exists.1 h
  simp only [isAgg, Sem.run_bind, run_underlying hd, Result.andThen_ok, isAg, hd]
  cases d <;> rfl

/-- The cells of one value. -/
def cellsOf : TV → Option (List TV)
  | .agg l => some l
  | .v (.agg cs) => some (cs.toList.map .v)
  | .v (.tuple _) | .tup _ | .opt _ _ | .any => none
  | x => some [x]
def cellV : TV → Bool
  | .agg _ | .v (.agg _) | .v (.tuple _) | .tup _ | .opt _ _ | .any => false
  | _ => true

theorem RVl_map_v (E : Env) (cs : List Value) : RVl E (cs.map TV.v) (fun i => cs[i]?) 0 := RVl.of fun j x hx => by
  rw [List.getElem?_map] at hx
  cases hj : cs[j]? with
  | none => rw [hj] at hx; cases hx
  | some v => rw [hj] at hx; simp at hx; subst hx; exact ⟨v, by simpa using hj, by simp only [RV]⟩

theorem cellV_one {E : Env} {x : TV} {y : Value} (hx : RV E x y) (hc : cellV x = true) : y.oneCell' = true ∧ y.cells = #[y] := by
  cases x with
  | v z => simp only [RV] at hx; subst hx; cases y <;> simp_all [cellV, Value.oneCell', Value.cells]
  | «at» b ver o => simp only [RV] at hx; obtain ⟨p, rfl, -⟩ := hx; exact ⟨rfl, rfl⟩
  | sl b ver o n => simp only [RV] at hx; obtain ⟨a, cap, rfl, -⟩ := hx; exact ⟨rfl, rfl⟩
  | mp b ver => simp only [RV] at hx; obtain ⟨r, rfl, -⟩ := hx; exact ⟨rfl, rfl⟩
  | isl cells n => simp only [RV] at hx; rcases hx with ⟨-, -, rfl⟩ | ⟨a, cap, rfl, -⟩ <;> exact ⟨rfl, rfl⟩
  | iat cells => simp only [RV] at hx; obtain ⟨a, rfl, -⟩ := hx; exact ⟨rfl, rfl⟩
  | ifc t x => simp only [RV] at hx; obtain ⟨z, rfl, -⟩ := hx; exact ⟨rfl, rfl⟩
  | fn f c => simp only [RV] at hx; obtain ⟨z, rfl, -⟩ := hx; exact ⟨rfl, rfl⟩
  | agg l => cases hc
  | tup l => cases hc
  | opt g x => cases hc
  | any => cases hc

theorem cellsOf_sound {E : Env} {x : TV} {y : Value} {l : List TV} (hx : RV E x y) (hl : cellsOf x = some l) : y.cells.toList.length = l.length ∧ RVl E l (fun i => y.cells.toList[i]?) 0 := by
  by_cases hc : cellV x = true
  · have h1 := (cellV_one hx hc).2
    have : l = [x] := by
      cases x with
      | v z => cases z <;> simp_all [cellsOf, cellV]
      | _ => simp_all [cellsOf, cellV]
    subst this
    rw [h1]
    exact ⟨rfl, by simp only [RVl]; exact ⟨⟨y, rfl, hx⟩, trivial⟩⟩
  · cases x with
    | v z =>
      simp only [RV] at hx
      subst hx
      cases y with
      | agg cs =>
        simp only [cellsOf, Option.some.injEq] at hl
        subst hl
        exact ⟨by simp [Value.cells], by simpa [Value.cells] using RVl_map_v E cs.toList⟩
      | _ => simp_all [cellV, cellsOf]
    | agg l' =>
      simp only [cellsOf, Option.some.injEq] at hl
      subst hl
      simp only [RV] at hx
      obtain ⟨zs, rfl, h1, h2⟩ := hx
      exact ⟨by simpa [Value.cells] using h1, by simpa [Value.cells] using h2⟩
    | _ => simp_all [cellV, cellsOf]

section
variable {P : Program} {e : Ent} {E : Env} {s : TS} {w : World}

/-- The cells from an address on. -/
def addrCells (s : TS) (x : TV) (K : List TV → Prop) : Prop :=
  match x with
  | .at b ver o => match getH s.h b with
    | some (ver', B) => ver = ver' ∧ K (B.cells.drop o)
    | none => False
  | .iat cells => K cells
  | _ => False

theorem addrCells_sound {x : TV} {y : Value} {K : List TV → Prop} (H : SatH e E s.h w) (hx : RV E x y) (h : addrCells s x K) :
    ∃ r o cells, y = .pointer (some ⟨r, o, none⟩) ∧ K cells ∧ RVl E cells (fun i => w.cell? ⟨r, i, none⟩) o := by
  cases x with
  | «at» b ver o =>
    simp only [addrCells] at h
    split at h
    · rename_i ver' B hb
      obtain ⟨rfl, hK⟩ := h
      obtain ⟨R, hR, hB⟩ := H.live b ver B hb
      simp only [RV] at hx
      obtain ⟨p, rfl, h1, h2⟩ := hx
      obtain ⟨q, rfl, rfl, hnm⟩ := h2 R hR
      replace hB := hB.at hnm
      rcases hB with ⟨h0, _, _⟩ | ⟨q', h1, _, h3, h4, h5⟩
      · cases h0
      cases h1
      exact ⟨_, _, _, rfl, hK, h5.drop o⟩
    · exact h.elim
  | iat cells =>
    simp only [addrCells] at h
    simp only [RV] at hx
    obtain ⟨⟨r, o, sp⟩, rfl, h1, h2⟩ := hx
    cases h1
    exact ⟨r, o, cells, rfl, h, RVl.mono (Env.Le.refl E) _ _ _ _ (fun i v hv => H.imm r i v hv) h2⟩
  | _ => exact h.elim

/-- A variable read. -/
def loadT (P : Program) (t : Nat) (s : TS) (x : TV) (K : TV → Prop) : Prop :=
  hasU P t = true ∧ 0 < szOf P t ∧ addrCells s x fun c => if isAg P t then szOf P t ≤ c.length ∧ K (.agg (c.take (szOf P t))) else match c with | z :: _ => K z | [] => False

theorem loadT_sound {t : Nat} {x : TV} {y : Value} {K : TV → Prop} (H : SatH e E s.h w) (hx : RV E x y) (h : loadT P t s x K) :
    ∃ r v, K r ∧ RV E r v ∧ (Instr.loadAt t y).run P w = .ok v w := by
  obtain ⟨hu, hsz, h⟩ := h
  obtain ⟨r, o, cells, rfl, hK, hc⟩ := addrCells_sound H hx h
  have e1 : (Instr.loadAt t (.pointer (some ⟨r, o, none⟩))).run P w = (loadVar t ⟨r, o, none⟩).run P w := by simp [Instr.loadAt, Instr.sureAddr]
  rw [e1]
  simp only [loadVar, Sem.run_bind, run_isAg hu, Result.andThen_ok]
  by_cases ha : isAg P t = true
  · simp only [ha, if_true] at hK ⊢
    obtain ⟨hlen, hK⟩ := hK
    obtain ⟨zs, z1, z2, z3⟩ := (hc.take (szOf P t)).vals
    have hz : zs.length = szOf P t := by rw [z1, List.length_take]; omega
    refine ⟨_, .agg zs.toArray, hK, ?_, ?_⟩
    · simp only [RV]; exact ⟨zs, rfl, z1, z3⟩
    · have := run_loadCells_list (P := P) w ⟨r, o, none⟩ zs (fun j v hj => by rw [Addr.add_lit]; exact z2 j v hj)
      simp [run_szOf hsz, ← hz, this]
  · simp only [ha] at hK ⊢
    cases cells with
    | nil => simp at hK
    | cons z l =>
      simp only [RVl] at hc
      obtain ⟨⟨v, h1, h2⟩, _⟩ := hc
      exact ⟨z, v, by simpa using hK, h2, by simp [h1]⟩

/-- A variable written. -/
def storeT (P : Program) (t : Nat) (s : TS) (x z : TV) (K : TS → Prop) : Prop :=
  match x, cellsOf z with
  | .at b ver o, some new => match getH s.h b with
    | some (ver', B) => ver = ver' ∧ new.all cellV = true ∧ 0 < szOf P t ∧ new.length = szOf P t ∧ o + new.length ≤ B.cells.length ∧ K { s with h := setH s.h b (ver', ⟨B.k, over B.cells o new⟩) }
    | none => False
  | _, _ => False

theorem storeT_sound {t : Nat} {x z : TV} {y u : Value} {K : TS → Prop} (H : SatH e E s.h w) (hx : RV E x y) (hz : RV E z u) (h : storeT P t s x z K) :
    ∃ h' w', K { s with h := h' } ∧ SatH e E h' w' ∧ (Instr.storeAt t y u).run P w = .ok () w' := by
  unfold storeT at h
  split at h
  · rename_i b ver o new hnew
    split at h
    · rename_i ver' B hb
      obtain ⟨rfl, hall, hsz, hlen, hfit, hK⟩ := h
      obtain ⟨R, hR, hB⟩ := H.live b ver B hb
      simp only [RV] at hx
      obtain ⟨p, rfl, h1, h2⟩ := hx
      obtain ⟨q, rfl, rfl, hnm⟩ := h2 R hR
      replace hB := hB.at hnm
      rcases hB with ⟨h0, _, _⟩ | ⟨q', h1, _, h3, h4, h5⟩
      · cases h0
      cases h1
      obtain ⟨c1, c2⟩ := cellsOf_sound hz hnew
      have hone : ∀ v ∈ u.cells.toList, v.oneCell' = true := fun v hv => by
        obtain ⟨j, hj, rfl⟩ := List.getElem_of_mem hv
        obtain ⟨x', hx'⟩ : ∃ x', new[j]? = some x' := ⟨new[j]'(by omega), List.getElem?_eq_getElem _⟩
        obtain ⟨v', k1, k2⟩ := c2.get j x' hx'
        rw [Nat.zero_add, List.getElem?_eq_getElem hj] at k1
        cases k1
        exact (cellV_one k2 (List.all_eq_true.1 hall x' (List.mem_of_getElem? hx'))).1
      have hst := run_storeCells_cells (P := P) q.r (q.base + o) u.cells.toList 0 w (fun j hj => (h4 _ (by omega)).1) (fun j hj => (h4 _ (by omega)).2) hone
      refine ⟨_, _, hK, H.store hb hR hnm hfit c1 c2, ?_⟩
      have hs : u.cells.size = szOf P t := by rw [← hlen, ← c1]; simp
      simp only [Nat.add_zero] at hst
      simp [Instr.storeAt, Instr.sureAddr, storeVar, run_szOf hsz, hs, hst]
    · exact h.elim
  · exact h.elim
end
end Go.Proofs.YtnkdkajllmopaaaGreat.TL

namespace Go.Proofs.YtnkdkajllmopaaaGreat.TL
open Go
set_option linter.unusedVariables false
set_option linter.unusedSimpArgs false

section
variable {P : Program} {e : Ent} {E : Env} {s : TS} {w : World}

/-- Do two lists of plain cells agree? (numbers, texts, truth values alone) -/
def eqL : List TV → List TV → Option Bool
  | [], [] => some true
  | .v (.int k a) :: l, .v (.int k' b) :: l' => if k = k' then (eqL l l').map fun r => decide (a = b) && r else none
  | .v (.string a) :: l, .v (.string b) :: l' => (eqL l l').map fun r => decide (a = b) && r
  | .v (.bool a) :: l, .v (.bool b) :: l' => (eqL l l').map fun r => decide (a = b) && r
  | _, _ => none

def binT (op : BinOp) (x y : TV) (K : TV → Prop) : Prop :=
  match x, y with
  | .v (.int k a), .v (.int k' b) =>
    match op with
    | .shl => 0 ≤ b ∧ K (.v (.int k (k.wrap (a * 2 ^ (min b.toNat k.bits)))))
    | .shr => 0 ≤ b ∧ K (.v (.int k (a.fdiv (2 ^ (min b.toNat k.bits)))))
    | .add => k = k' ∧ K (.v (.int k (k.wrap (a + b))))
    | .sub => k = k' ∧ K (.v (.int k (k.wrap (a - b))))
    | .mul => k = k' ∧ K (.v (.int k (k.wrap (a * b))))
    | .quo => k = k' ∧ b ≠ 0 ∧ K (.v (.int k (k.wrap (a.tdiv b))))
    | .rem => k = k' ∧ b ≠ 0 ∧ K (.v (.int k (a.tmod b)))
    | .and => k = k' ∧ K (.v (.int k (bits .and k a b)))
    | .or => k = k' ∧ K (.v (.int k (bits .or k a b)))
    | .xor => k = k' ∧ K (.v (.int k (bits .xor k a b)))
    | .andNot => k = k' ∧ K (.v (.int k (bits .andNot k a b)))
    | .eql => k = k' ∧ K (.v (.bool (decide (a = b))))
    | .neq => k = k' ∧ K (.v (.bool (!decide (a = b))))
    | .lss => k = k' ∧ K (.v (.bool (decide (a < b))))
    | .leq => k = k' ∧ K (.v (.bool (decide (a ≤ b))))
    | .gtr => k = k' ∧ K (.v (.bool (decide (b < a))))
    | .geq => k = k' ∧ K (.v (.bool (decide (b ≤ a))))
  | .v (.string a), .v (.string b) =>
    match op with
    | .add => ((sl a).length + (sl b).length ≤ 9223372036854775807) ∧ K (.v (.string (bs (sl a ++ sl b))))
    | .eql => K (.v (.bool (decide (sl a = sl b))))
    | .neq => K (.v (.bool (!decide (sl a = sl b))))
    | _ => False
  | _, _ => False

theorem toList_eq_sl (a : ByteArray) : a.toList = sl a := ByteArray.toList_eq a

theorem beq_dec {α : Type} [DecidableEq α] (a b : α) : (a == b) = decide (a = b) := by
  by_cases h : a = b <;> simp [h]

theorem binT_sound {op : BinOp} {t : TypeId} {ox oy : Operand} {x y : TV} {u v : Value} {K : TV → Prop} (hx : RV E x u) (hy : RV E y v) (h : binT op x y K) :
    ∃ r z, K r ∧ RV E r z ∧ (do eqGuard op t ox oy u v; binOp op t u v : Sem Value).run P w = .ok z w := by
  unfold binT at h
  split at h
  · rename_i k a k' b
    simp only [RV] at hx hy
    subst hx hy
    cases op <;> simp only at h <;> first
      | (obtain ⟨h0, h⟩ := h
         refine ⟨_, _, h, by simp only [RV]; rfl, ?_⟩
         have hb : ¬ b < 0 := by omega
         simp [eqGuard, binOp, Op.shift, hb]; done)
      | (obtain ⟨rfl, h0, h⟩ := h
         refine ⟨_, _, h, by simp only [RV]; rfl, ?_⟩
         simp [eqGuard, binOp, Op.intDiv, h0]; done)
      | (obtain ⟨rfl, h⟩ := h
         refine ⟨_, _, h, by simp only [RV]; rfl, ?_⟩
         simp [eqGuard, binOp, Op.intArith, Op.intCmp, intBits_and, intBits_or, intBits_xor, intBits_andNot, beq_dec, bne]; done)
  · rename_i a b
    simp only [RV] at hx hy
    subst hx hy
    cases op <;> simp only at h <;> first
      | (obtain ⟨h0, h⟩ := h
         refine ⟨_, _, h, by simp only [RV]; rfl, ?_⟩
         have hb : ¬ ((9223372036854775807 : Int) < (a.size : Int) + (b.size : Int)) := by rw [size_sl, size_sl]; omega
         have e1 : a ++ b = bs (sl a ++ sl b) := by
           apply sl_inj.1
           rw [sl_bs]
           simp [sl]
         simp [eqGuard, binOp, Op.stringOp, hb, e1]; done)
      | (refine ⟨_, _, h, by simp only [RV]; rfl, ?_⟩
         have e1 : (sl a == sl b) = decide (sl a = sl b) := by by_cases hh : sl a = sl b <;> simp [hh]
         simp [eqGuard, binOp, Op.stringOp, toList_eq_sl, e1]; done)
  · exact h.elim

def unT (op : UnOp) (x : TV) (K : TV → Prop) : Prop :=
  match op, x with
  | .not, .v (.bool b) => K (.v (.bool (!b)))
  | .neg, .v (.int k n) => K (.v (.int k (k.wrap (0 - n))))
  | .xor, .v (.int k n) => K (.v (.int k (bits .xor k (if k.signed then -1 else k.max) n)))
  | _, _ => False

theorem unT_sound {op : UnOp} {x : TV} {u : Value} {K : TV → Prop} (hx : RV E x u) (h : unT op x K) :
    ∃ r z, K r ∧ RV E r z ∧ (Op.unary op u).run P w = .ok z w := by
  unfold unT at h
  split at h
  · simp only [RV] at hx; subst hx; exact ⟨_, _, h, by simp only [RV]; rfl, by simp [Op.unary]⟩
  · simp only [RV] at hx; subst hx; exact ⟨_, _, h, by simp only [RV]; rfl, by simp [Op.unary, Op.intArith]⟩
  · simp only [RV] at hx; subst hx; exact ⟨_, _, h, by simp only [RV]; rfl, by simp [Op.unary, intBits_xor]⟩
  · exact h.elim

/-- Kinds of a type, as a conversion wants them. -/
inductive Kd where
  | int (k : IntKind)
  | str
  | bytes
  | other
def kdOf (P : Program) (t : Nat) : Kd :=
  match P.underlying t with
  | some (.int k) => .int k
  | some .string => .str
  | some (.slice e) => match P.underlying e with | some (.int .u8) => .bytes | _ => .other
  | _ => .other

/-- A byte in a cell. -/
def bv (b : UInt8) : TV := .v (.int .u8 b.toNat)

def convT (P : Program) (src dst : Nat) (s : TS) (x : TV) (K : TV → Prop) : Prop :=
  hasU P src = true ∧ match x with
  | .v (.int _ n) => match kdOf P dst with
    | .int k => K (.v (.int k (k.wrap n)))
    | _ => False
  | .v (.string z) => match kdOf P dst with
    | .str => K (.v (.string z))
    | _ => False
  | .sl b ver o n => match getH s.h b, kdOf P src, kdOf P dst with
    | some (ver', B), .bytes, .str => ver = ver' ∧ ∃ l : List UInt8, (B.cells.drop o).take n = l.map bv ∧ l.length = n ∧ K (.v (.string (bs l)))
    | _, _, _ => False
  | .isl cells n => match kdOf P src, kdOf P dst with
    | .bytes, .str => ∃ l : List UInt8, cells = l.map bv ∧ l.length = n ∧ K (.v (.string (bs l)))
    | _, _ => False
  | .v (.slice none 0 0) => match kdOf P src, kdOf P dst with
    | .bytes, .str => K (.v (.string (bs [])))
    | _, _ => False
  | _ => False

theorem kdOf_int {t : Nat} {k : IntKind} (h : kdOf P t = .int k) : P.underlying t = some (.int k) := by
  unfold kdOf at h
  split at h
  · rename_i k' h'
    cases h
    exact h'
  · cases h
  · split at h <;> cases h
  · cases h
theorem kdOf_str {t : Nat} (h : kdOf P t = .str) : P.underlying t = some .string := by
  unfold kdOf at h
  split at h
  · cases h
  · assumption
  · split at h <;> cases h
  · cases h
theorem kdOf_bytes {t : Nat} (h : kdOf P t = .bytes) : ∃ e, P.underlying t = some (.slice e) ∧ P.underlying e = some (.int .u8) := by
  unfold kdOf at h
  split at h
  · cases h
  · cases h
  · rename_i e he
    split at h
    · exact ⟨e, he, by assumption⟩
    · cases h
  · cases h

theorem foldl_push_bs : ∀ (l : List UInt8) (z : ByteArray), (l.map fun b => (b.toNat : Int)).foldl (fun r n => r.push (UInt8.ofNat n.toNat)) z = bs (sl z ++ l)
  | [], z => by simp
  | b :: l, z => by
    simp only [List.map_cons, List.foldl_cons, foldl_push_bs l]
    congr 1
    have : sl (z.push (UInt8.ofNat (Int.toNat (b.toNat : Int)))) = sl z ++ [b] := by
      simp [sl, ByteArray.push]
    rw [this, List.append_assoc]
    rfl

theorem run_bytes (l : List UInt8) (a : Addr) (cap : Nat) (f : Nat → Option Value) (h : RVl E (l.map bv) f a.off) (hf : ∀ o v, f o = some v → w.cell? ⟨a.block, o, none⟩ = some v) (hs : a.spot = none) :
    (Conv.bytesToString (.slice (some a) l.length cap)).run P w = .ok (.string (bs l)) w := by
  obtain ⟨r, o, sp⟩ := a
  cases hs
  have h2 := run_loadCells_list (P := P) w ⟨r, o, none⟩ ((l.map fun b => (b.toNat : Int)).map (Value.int .u8)) (fun j v hj => by
    rw [Addr.add_lit]
    simp only [List.getElem?_map, Option.map_map] at hj
    obtain ⟨b, hb, rfl⟩ := Option.map_eq_some_iff.1 hj
    obtain ⟨v', k1, k2⟩ := h.get j (bv b) (by rw [List.getElem?_map, hb]; rfl)
    simp only [bv, RV] at k2
    subst k2
    exact hf _ _ k1)
  have := run_bytesToString (P := P) w ⟨r, o, none⟩ l.length cap (l.map fun b => (b.toNat : Int)) (by rw [← h2]; simp)
  rw [this, foldl_push_bs]
  rfl

theorem convT_sound {src dst : Nat} {x : TV} {u : Value} {K : TV → Prop} (H : SatH e E s.h w) (hx : RV E x u) (h : convT P src dst s x K) :
    ∃ r z, K r ∧ RV E r z ∧ (convert src dst u).run P w = .ok z w := by
  obtain ⟨hs, h⟩ := h
  obtain ⟨ds, hds⟩ := Option.isSome_iff_exists.1 hs
  split at h
  · simp only [RV] at hx; subst hx
    split at h
    · rename_i k hk
      exact ⟨_, _, h, by simp only [RV]; rfl, by simp [convert, run_underlying hds, run_underlying (kdOf_int hk), Conv.intToInt]⟩
    · exact h.elim
  · simp only [RV] at hx; subst hx
    split at h
    · rename_i hk
      exact ⟨_, _, h, by simp only [RV]; rfl, by simp [convert, run_underlying hds, run_underlying (kdOf_str hk)]⟩
    · exact h.elim
  · rename_i b ver o n
    split at h
    · rename_i ver' B hb hk1 hk2
      obtain ⟨rfl, l, hl, hn, hK⟩ := h
      obtain ⟨R, hR, hB⟩ := H.live b ver B hb
      obtain ⟨ee, he1, he2⟩ := kdOf_bytes hk1
      simp only [RV] at hx
      obtain ⟨a, cap, rfl, h0, -, h1, h2⟩ := hx
      refine ⟨_, _, hK, by simp only [RV]; rfl, ?_⟩
      rcases h2 R hR with ⟨rfl, rfl, rfl, rfl⟩ | ⟨q, a', rfl, rfl, h3, h4⟩
      · obtain rfl : l = [] := List.eq_nil_of_length_eq_zero hn
        simp [convert, run_underlying he1, run_underlying he2, run_underlying (kdOf_str hk2), Conv.bytesToString, bs]
        rfl
      · subst hn
        rcases h3 with rfl | rfl
        · obtain rfl : l = [] := List.eq_nil_of_length_eq_zero (Nat.le_zero.1 h0)
          simp [convert, run_underlying he1, run_underlying he2, run_underlying (kdOf_str hk2), Conv.bytesToString, loadCells, loadCellsFrom, bs]
          rfl
        · replace hB := hB.sl h4
          rcases hB with ⟨k0, _, _⟩ | ⟨q', k1, _, _, _, k5⟩
          · cases k0
          cases k1
          have := run_bytes (P := P) (E := E) (w := w) l ⟨q.r, q.base + o, none⟩ cap _ (hl ▸ (k5.drop o).take l.length) (fun _ _ hh => hh) rfl
          simp [convert, run_underlying he1, run_underlying he2, run_underlying (kdOf_str hk2), this]
    · exact h.elim
  · rename_i cells n
    split at h
    · rename_i hk1 hk2
      obtain ⟨l, rfl, hn, hK⟩ := h
      obtain ⟨ee, he1, he2⟩ := kdOf_bytes hk1
      refine ⟨_, _, hK, by simp only [RV]; rfl, ?_⟩
      subst hn
      simp only [RV] at hx
      rcases hx with ⟨h0, h1, rfl⟩ | ⟨a, cap, rfl, h2, h3⟩
      · obtain rfl : l = [] := List.eq_nil_of_length_eq_zero h0
        simp [convert, run_underlying he1, run_underlying he2, run_underlying (kdOf_str hk2), Conv.bytesToString, bs]
        rfl
      · rcases h3 with h3 | ⟨h3, h4⟩
        · obtain rfl : l = [] := by simpa using h3
          simp [convert, run_underlying he1, run_underlying he2, run_underlying (kdOf_str hk2), Conv.bytesToString, loadCells, loadCellsFrom, bs]
          rfl
        · have := run_bytes (P := P) (E := E) (w := w) l a cap _ h4 (fun o v hv => H.imm _ _ _ hv) h3
          simp [convert, run_underlying he1, run_underlying he2, run_underlying (kdOf_str hk2), this]
    · exact h.elim
  · simp only [RV] at hx; subst hx
    split at h
    · rename_i hk1 hk2
      obtain ⟨ee, he1, he2⟩ := kdOf_bytes hk1
      refine ⟨_, _, h, by simp only [RV]; rfl, ?_⟩
      simp [convert, run_underlying he1, run_underlying he2, run_underlying (kdOf_str hk2), Conv.bytesToString, bs]
      rfl
    · exact h.elim
  · exact h.elim

/-- A field's place: its first cell, how many it has, whether it is a struct or an array. -/
def fieldOf (P : Program) (t f : Nat) : Option (Nat × Nat × Bool) :=
  match P.underlying t with
  | some (.struct fs) => (fs[f]?).bind fun x => if 0 < szOf P x.type ∧ hasU P x.type = true then some (x.offset, szOf P x.type, isAg P x.type) else none
  | _ => none

theorem fieldOf_spec {t f o k : Nat} {ag : Bool} (h : fieldOf P t f = some (o, k, ag)) :
    ∃ fs x, P.underlying t = some (.struct fs) ∧ fs[f]? = some x ∧ x.offset = o ∧ szOf P x.type = k ∧ isAg P x.type = ag ∧ 0 < k ∧ hasU P x.type = true := by
  unfold fieldOf at h
  split at h
  · rename_i fs hfs
    obtain ⟨x, hx, h⟩ := Option.bind_eq_some_iff.1 h
    split at h
    · rename_i hc
      cases h
      exact ⟨fs, x, hfs, hx, rfl, rfl, rfl, hc.1, hc.2⟩
    · cases h
  · cases h

def fieldAddrT (P : Program) (t f : Nat) (x : TV) (K : TV → Prop) : Prop :=
  match fieldOf P t f with
  | some (o', _, _) => match x with
    | .at b ver o => K (.at b ver (o + o'))
    | .iat c => K (.iat (c.drop o'))
    | _ => False
  | none => False

theorem add_spot (a : Addr) (n : Nat) (h : a.spot = none) : a.add n = ⟨a.block, a.off + n, none⟩ := by
  obtain ⟨b, o, sp⟩ := a
  cases h
  exact Addr.add_lit b o n

theorem fieldAddrT_sound {t f : Nat} {x : TV} {u : Value} {K : TV → Prop} (hx : RV E x u) (h : fieldAddrT P t f x K) :
    ∃ r z, K r ∧ RV E r z ∧ (Instr.fieldAt t u f).run P w = .ok z w := by
  unfold fieldAddrT at h
  split at h
  · rename_i o' k ag hf
    obtain ⟨fs, y, h1, h2, rfl, rfl, rfl, h4, h5⟩ := fieldOf_spec hf
    have hn : szOf P y.type ≠ 0 := by omega
    have e1 : ∀ p : Addr, (Instr.fieldAt t (.pointer (some p)) f).run P w = .ok (.pointer (some (p.add y.offset))) w := fun p => by
      simp [Instr.fieldAt, run_underlying h1, h2, Instr.sureAddr, fieldPlace, run_szOf h4, hn]
    split at h
    · rename_i b ver o
      simp only [RV] at hx
      obtain ⟨p, rfl, h6, h7⟩ := hx
      refine ⟨_, _, h, ?_, e1 p⟩
      simp only [RV]
      refine ⟨_, rfl, h6, fun R hR => ?_⟩
      obtain ⟨q, rfl, rfl, hnm⟩ := h7 R hR
      exact ⟨q, rfl, by rw [Addr.add_lit]; simp [Nat.add_assoc], hnm⟩
    · rename_i c
      simp only [RV] at hx
      obtain ⟨p, rfl, h6, h7⟩ := hx
      refine ⟨_, _, h, ?_, e1 p⟩
      simp only [RV]
      rw [add_spot p _ h6]
      exact ⟨_, rfl, rfl, h7.drop _⟩
    · exact h.elim
  · exact h.elim

def fieldT (P : Program) (t f : Nat) (x : TV) (K : TV → Prop) : Prop :=
  match fieldOf P t f, x with
  | some (o, k, ag), .agg l => if ag then o + k ≤ l.length ∧ K (.agg ((l.drop o).take k)) else match l.drop o with | z :: _ => K z | [] => False
  | _, _ => False

theorem getElem?_drop_cons {α : Type} {l l' : List α} {o : Nat} {z : α} (h : l.drop o = z :: l') : l[o]? = some z := by
  have := List.getElem?_drop (xs := l) (i := o) (j := 0)
  rw [h] at this
  simpa using this.symm

theorem fieldT_sound {t f : Nat} {x : TV} {u : Value} {K : TV → Prop} (hx : RV E x u) (h : fieldT P t f x K) :
    ∃ r z, K r ∧ RV E r z ∧ (Instr.field t u f).run P w = .ok z w := by
  unfold fieldT at h
  split at h
  · rename_i o k ag l hf
    obtain ⟨fs, y, h1, h2, rfl, rfl, rfl, h4, h5⟩ := fieldOf_spec hf
    simp only [RV] at hx
    obtain ⟨zs, rfl, z1, z2⟩ := hx
    have e1 : (Instr.field t (.agg zs.toArray) f).run P w = (part y.type zs.toArray y.offset).run P w := by
      simp [Instr.field, run_underlying h1, h2, asAgg]
    rw [e1]
    simp only [part, Sem.run_bind, run_isAg h5, Result.andThen_ok]
    by_cases ha : isAg P y.type = true
    · simp only [ha, if_true] at h ⊢
      obtain ⟨hl, hK⟩ := h
      refine ⟨_, .agg (zs.toArray.extract y.offset (y.offset + szOf P y.type)), hK, ?_, by simp [run_szOf h4]⟩
      simp only [RV]
      refine ⟨(zs.drop y.offset).take (szOf P y.type), ?_, by simp [z1], ?_⟩
      · congr 1; apply Array.ext'; simp [List.extract_eq_take_drop]
      · refine RVl.of fun j q hq => ?_
        rw [List.getElem?_take] at hq
        split at hq
        · rw [List.getElem?_drop] at hq
          obtain ⟨v, k1, k2⟩ := z2.get _ q hq
          refine ⟨v, ?_, k2⟩
          rw [List.getElem?_take, if_pos (by omega), List.getElem?_drop]
          simpa using k1
        · cases hq
    · simp only [ha, Bool.false_eq_true, if_false] at h ⊢
      split at h
      · rename_i z l' hd
        obtain ⟨v, k1, k2⟩ := z2.get _ z (getElem?_drop_cons hd)
        refine ⟨z, v, h, k2, ?_⟩
        simp at k1
        simp [k1]
      · exact h.elim
  · exact h.elim

def extractT (x : TV) (i : Nat) (K : TV → Prop) : Prop :=
  match x with
  | .tup l => match l.drop i with | z :: _ => K z | [] => False
  | _ => False
theorem extractT_sound {i : Nat} {x : TV} {u : Value} {K : TV → Prop} (hx : RV E x u) (h : extractT x i K) :
    ∃ r z, K r ∧ RV E r z ∧ (Instr.extract u i).run P w = .ok z w := by
  unfold extractT at h
  split at h
  · simp only [RV] at hx
    obtain ⟨zs, rfl, z1, z2⟩ := hx
    split at h
    · rename_i z l' hd
      obtain ⟨v, k1, k2⟩ := z2.get _ z (getElem?_drop_cons hd)
      refine ⟨z, v, h, k2, ?_⟩
      simp at k1
      simp [Instr.extract, k1]
    · exact h.elim
  · exact h.elim

end
end Go.Proofs.YtnkdkajllmopaaaGreat.TL

namespace Go.Proofs.YtnkdkajllmopaaaGreat.TL
open Go
set_option linter.unusedVariables false
set_option linter.unusedSimpArgs false

section
variable {P : Program} {e : Ent} {E : Env} {s : TS} {w : World}

/-- A slice type's element: how many cells; an array's: how many elements, how many cells each. -/
def elemOf (P : Program) (t : Nat) : Option Nat :=
  match P.underlying t with
  | some (.slice e) => if 0 < szOf P e ∧ (zeroOf P e).map (·.length) = some (szOf P e) then some (szOf P e) else none
  | _ => none
def arrOf (P : Program) (t : Nat) : Option (Nat × Nat) :=
  match P.underlying t with
  | some (.array n e) => if 0 < szOf P e then some (n, szOf P e) else none
  | _ => none
theorem elemOf_all {t k : Nat} (h : elemOf P t = some k) : ∃ e i z, P.underlying t = some (.slice e) ∧ szOf P e = k ∧ 0 < k ∧ P.info? e = some i ∧ i.size = k ∧ i.zero = some z ∧ z.cells.size = k := by
  unfold elemOf at h
  split at h
  · rename_i e he
    split at h
    · rename_i hc
      cases h
      obtain ⟨h1, h2⟩ := hc
      cases hi : P.info? e with
      | none => simp [szOf, hi] at h1
      | some i =>
        cases hz : i.zero with
        | none => simp [zeroOf, hi, hz] at h2
        | some z => exact ⟨e, i, z, he, rfl, h1, hi, by simp [szOf, hi], hz, by simpa [zeroOf, hi, hz] using h2⟩
    · cases h
  · cases h
theorem elemOf_spec {t k : Nat} (h : elemOf P t = some k) : ∃ e, P.underlying t = some (.slice e) ∧ szOf P e = k ∧ 0 < k := by
  obtain ⟨e, i, z, h1, h2, h3, _⟩ := elemOf_all h
  exact ⟨e, h1, h2, h3⟩
theorem arrOf_spec {t n k : Nat} (h : arrOf P t = some (n, k)) : ∃ e, P.underlying t = some (.array n e) ∧ szOf P e = k ∧ 0 < k := by
  unfold arrOf at h
  split at h
  · rename_i n' e he
    split at h
    · cases h; exact ⟨e, he, rfl, by assumption⟩
    · cases h
  · cases h

def idxT (P : Program) (t : Nat) (x i : TV) (K : TV → Prop) : Prop :=
  match i with
  | .v (.int _ i) => match elemOf P t, arrOf P t, x with
    | some k, _, .sl b ver o n => (0 ≤ i ∧ i < n) ∧ K (.at b ver (o + i.toNat * k))
    | some k, _, .isl c n => (0 ≤ i ∧ i < n ∧ n * k ≤ c.length) ∧ K (.iat (c.drop (i.toNat * k)))
    | none, some (n, k), .at b ver o => (0 ≤ i ∧ i < n) ∧ K (.at b ver (o + i.toNat * k))
    | none, some (n, k), .iat c => (0 ≤ i ∧ i < n) ∧ K (.iat (c.drop (i.toNat * k)))
    | _, _, _ => False
  | _ => False

theorem idxT_sound {t : Nat} {x i : TV} {u v : Value} {K : TV → Prop} (hx : RV E x u) (hi : RV E i v) (h : idxT P t x i K) :
    ∃ r z, K r ∧ RV E r z ∧ (Instr.indexAt t u v).run P w = .ok z w := by
  unfold idxT at h
  split at h
  · rename_i ki i
    simp only [RV] at hi
    subst hi
    split at h
    · rename_i k _ b ver o n hk
      obtain ⟨ee, h1, rfl, h3⟩ := elemOf_spec hk
      obtain ⟨⟨h4, h5⟩, hK⟩ := h
      simp only [RV] at hx
      obtain ⟨a, cap, rfl, h6, h60, h7, h8⟩ := hx
      have hn : n ≠ 0 := by omega
      cases a with
      | none =>
        have := h60 rfl
        omega
      | some a =>
        refine ⟨_, .pointer (some (a.add (i.toNat * szOf P ee))), hK, ?_, by simp [Instr.indexAt, run_underlying h1, asIntOf, h4, h5, run_szOf h3]⟩
        simp only [RV]
        refine ⟨_, rfl, h7, fun R hR => ?_⟩
        rcases h8 R hR with ⟨_, h9, _⟩ | ⟨q, a', rfl, h9, h10, h11⟩
        · exact absurd h9 hn
        · cases h9
          rcases h10 with h10 | rfl
          · omega
          · exact ⟨q, rfl, by rw [Addr.add_lit]; simp [Nat.add_assoc], real_nm h11⟩
    · rename_i k _ c n hk
      obtain ⟨ee, h1, rfl, h3⟩ := elemOf_spec hk
      obtain ⟨⟨h4, h5, h6⟩, hK⟩ := h
      simp only [RV] at hx
      rcases hx with ⟨rfl, _, _⟩ | ⟨a, cap, rfl, h7, h8⟩
      · omega
      · have hl : i.toNat * szOf P ee < c.length := Nat.lt_of_lt_of_le (Nat.mul_lt_mul_of_pos_right (by omega : i.toNat < n) h3) h6
        refine ⟨_, .pointer (some (a.add (i.toNat * szOf P ee))), hK, ?_, by simp [Instr.indexAt, run_underlying h1, asIntOf, h4, h5, run_szOf h3]⟩
        simp only [RV]
        rcases h8 with rfl | ⟨h8, h9⟩
        · simp at hl
        · rw [add_spot _ _ h8]
          exact ⟨_, rfl, rfl, h9.drop _⟩
    · rename_i n k b ver o hk1 hk
      obtain ⟨ee, h1, rfl, h3⟩ := arrOf_spec hk
      obtain ⟨⟨h4, h5⟩, hK⟩ := h
      simp only [RV] at hx
      obtain ⟨p, rfl, h7, h8⟩ := hx
      refine ⟨_, .pointer (some (p.add (i.toNat * szOf P ee))), hK, ?_, by simp [Instr.indexAt, run_underlying h1, asIntOf, h4, h5, run_szOf h3, Instr.sureAddr]⟩
      simp only [RV]
      refine ⟨_, rfl, h7, fun R hR => ?_⟩
      obtain ⟨q, rfl, rfl, hnm⟩ := h8 R hR
      exact ⟨q, rfl, by rw [Addr.add_lit]; simp [Nat.add_assoc], hnm⟩
    · rename_i n k c hk1 hk
      obtain ⟨ee, h1, rfl, h3⟩ := arrOf_spec hk
      obtain ⟨⟨h4, h5⟩, hK⟩ := h
      simp only [RV] at hx
      obtain ⟨p, rfl, h7, h8⟩ := hx
      refine ⟨_, .pointer (some (p.add (i.toNat * szOf P ee))), hK, ?_, by simp [Instr.indexAt, run_underlying h1, asIntOf, h4, h5, run_szOf h3, Instr.sureAddr]⟩
      simp only [RV]
      rw [add_spot _ _ h7]
      exact ⟨_, rfl, rfl, h8.drop _⟩
    · exact h.elim
  · exact h.elim

theorem sl_extract (z : ByteArray) (a b : Nat) : sl (z.extract a b) = ((sl z).drop a).take (b - a) := by
  simp [sl, ByteArray.data_extract, List.extract_eq_take_drop]

def bnd (o : Option TV) (d : Int) : Option Int :=
  match o with
  | none => some d
  | some (.v (.int _ n)) => some n
  | _ => none

def sliceT (P : Program) (t : Nat) (s : TS) (x : TV) (lo hi : Option TV) (K : TV → Prop) : Prop :=
  match x with
  | .v (.string z) => match kdOf P t, bnd lo 0, bnd hi (sl z).length with
    | .str, some l, some h => (0 ≤ l ∧ l ≤ h ∧ h ≤ (sl z).length) ∧ K (.v (.string (bs (((sl z).drop l.toNat).take (h - l).toNat))))
    | _, _, _ => False
  | .sl b ver o n => match elemOf P t, getH s.h b with
    | some k, some (ver', B) => match bnd lo 0, bnd hi n with
      | some l, some h => (ver = ver' ∧ (B.k = 0 ∨ B.k = k) ∧ 0 ≤ l ∧ l ≤ h ∧ (h ≤ n ∨ B.k = k ∧ o + h.toNat * k ≤ B.cells.length)) ∧ K (.sl b ver (o + l.toNat * k) (h - l).toNat)
      | _, _ => False
    | _, _ => False
  | .isl c n => match elemOf P t, bnd lo 0, bnd hi n with
    | some k, some l, some h => (0 ≤ l ∧ l ≤ h ∧ h ≤ n ∧ n * k ≤ c.length) ∧ K (.isl ((c.drop (l.toNat * k)).take ((h - l).toNat * k)) (h - l).toNat)
    | _, _, _ => False
  | .v (.slice none 0 0) => match elemOf P t, bnd lo 0, bnd hi 0 with
    | some k, some l, some h => (l = 0 ∧ h = 0) ∧ K (.v (.slice none 0 0))
    | _, _, _ => False
  | .at b ver o => match arrOf P t, getH s.h b with
    | some (n, k), some (ver', B) => match bnd lo 0, bnd hi n with
      | some l, some h => (ver = ver' ∧ B.k = 0 ∧ 0 ≤ l ∧ l ≤ h ∧ h ≤ n) ∧ K (.sl b ver (o + l.toNat * k) (h - l).toNat)
      | _, _ => False
    | _, _ => False
  | .iat c => match arrOf P t with
    | some (n, k) => match bnd lo 0, bnd hi n with
      | some l, some h => (0 ≤ l ∧ l ≤ h ∧ h ≤ n ∧ n * k ≤ c.length) ∧ K (.isl ((c.drop (l.toNat * k)).take ((h - l).toNat * k)) (h - l).toNat)
      | _, _ => False
    | none => False
  | _ => False

/-- The bounds of a slice expression, known. -/
theorem bounds_run {lo hi : Option TV} {lov hiv : Option Value} {l h d : Int} {n cap : Nat} {isl : Bool} (hlo : ∀ x, lo = some x → ∃ v, lov = some v ∧ RV E x v) (hlo' : lo = none → lov = none) (hhi : ∀ x, hi = some x → ∃ v, hiv = some v ∧ RV E x v) (hhi' : hi = none → hiv = none)
    (h1 : bnd lo 0 = some l) (h2 : bnd hi n = some h) (hl : 0 ≤ l) (hlh : l ≤ h) (hn : h ≤ cap) (hd : n ≤ cap) :
    (Instr.sliceBounds isl n cap lov hiv none).run P w = .ok (l.toNat, h.toNat, cap) w := by
  have a1 : (lov = none ∧ l = 0) ∨ ∃ k, lov = some (.int k l) := by
    cases lo with
    | none => exact .inl ⟨hlo' rfl, by simpa [bnd] using h1.symm⟩
    | some x =>
      obtain ⟨v, rfl, hv⟩ := hlo x rfl
      cases x with
      | v z => cases z with
        | int k m => simp only [RV] at hv; subst hv; simp [bnd] at h1; exact .inr ⟨k, by rw [h1]⟩
        | _ => simp [bnd] at h1
      | _ => simp [bnd] at h1
  have a2 : (hiv = none ∧ h = n) ∨ ∃ k, hiv = some (.int k h) := by
    cases hi with
    | none => exact .inl ⟨hhi' rfl, by simpa [bnd] using h2.symm⟩
    | some x =>
      obtain ⟨v, rfl, hv⟩ := hhi x rfl
      cases x with
      | v z => cases z with
        | int k m => simp only [RV] at hv; subst hv; simp [bnd] at h2; exact .inr ⟨k, by rw [h2]⟩
        | _ => simp [bnd] at h2
      | _ => simp [bnd] at h2
  have hh : (h.toNat : Int) = h := Int.toNat_of_nonneg (by omega)
  rcases a1 with ⟨rfl, rfl⟩ | ⟨k1, rfl⟩ <;> rcases a2 with ⟨rfl, rfl⟩ | ⟨k2, rfl⟩
  · simp [Instr.sliceBounds]
  · simp [Instr.sliceBounds, run_sliceBound _ _ _ _ _ (by omega : 0 ≤ h) hn]
  · simp [Instr.sliceBounds, run_sliceBound _ _ _ _ _ hl hlh]
  · simp [Instr.sliceBounds, run_sliceBound _ _ _ _ _ (by omega : 0 ≤ h) hn, run_sliceBound _ _ _ _ _ hl (by omega : l ≤ (h.toNat : Int))]

theorem sliceT_sound {t : Nat} {x : TV} {u : Value} {lo hi : Option TV} {lov hiv : Option Value} {K : TV → Prop} (H : SatH e E s.h w) (hx : RV E x u)
    (hlo : ∀ x, lo = some x → ∃ v, lov = some v ∧ RV E x v) (hlo' : lo = none → lov = none) (hhi : ∀ x, hi = some x → ∃ v, hiv = some v ∧ RV E x v) (hhi' : hi = none → hiv = none)
    (h : sliceT P t s x lo hi K) : ∃ r z, K r ∧ RV E r z ∧ (Instr.sliceAt t u lov hiv none).run P w = .ok z w := by
  unfold sliceT at h
  split at h
  · rename_i z
    simp only [RV] at hx; subst hx
    split at h
    · rename_i l h' hk hl hh
      obtain ⟨⟨c1, c2, c3⟩, hK⟩ := h
      refine ⟨_, _, hK, by simp only [RV]; rfl, ?_⟩
      have ht := kdOf_str hk
      rw [run_sliceAt_string w t _ _ _ _ ht]
      rw [← size_sl] at hh c3
      have := bounds_run (P := P) (E := E) (w := w) (isl := false) (d := 0) hlo hlo' hhi hhi' hl hh c1 c2 c3 (Nat.le_refl _)
      simp only [Instr.slice, Sem.run_bind, run_underlying ht, Result.andThen_ok, Bool.false_eq_true, if_false, Option.isSome_none, Sem.run_pure, this]
      congr 2
      apply sl_inj.1
      rw [sl_extract, sl_bs]
      congr 1
      omega
    · exact h.elim
  · rename_i b ver o n
    split at h
    · rename_i k ver' B hk hb
      split at h
      · rename_i l h' hl hh
        obtain ⟨ee, h1, rfl, h3⟩ := elemOf_spec hk
        obtain ⟨⟨rfl, hBk, c1, c2, c3⟩, hK⟩ := h
        obtain ⟨R, hR, hB⟩ := H.live b ver B hb
        simp only [RV] at hx
        obtain ⟨a, cap, rfl, h6, h60, h7, h8⟩ := hx
        have hel : P.elem t = ee := by simp [Program.elem, h1]
        have e2 : h'.toNat - l.toNat = (h' - l).toNat := by omega
        have hcap : h' ≤ cap := by
          rcases c3 with c3 | ⟨hBk2, c3⟩
          · omega
          · have hz : o + h'.toNat * szOf P ee ≤ o + cap * szOf P ee := by
              rcases h8 R hR with ⟨rfl, h10, rfl, rfl⟩ | ⟨q, a', rfl, rfl, h10, h11⟩
              · replace hB := hB.no
                rcases hB with ⟨_, _, k0⟩ | ⟨q', k1, _⟩
                · rw [k0] at c3; simp at c3 ⊢; omega
                · cases k1
              · replace hB := hB.sl h11
                rcases hB with ⟨k0, _, _⟩ | ⟨q', k1, k2, k3, _, _⟩
                · cases k0
                cases k1
                have h12 := h11 (by omega)
                rw [k2, hBk2] at h12
                omega
            have := Nat.le_of_mul_le_mul_right (by omega : h'.toNat * szOf P ee ≤ cap * szOf P ee) h3
            omega
        have := bounds_run (P := P) (E := E) (w := w) (isl := true) (d := 0) (n := n) (cap := cap) hlo hlo' hhi hhi' hl hh c1 c2 (by omega) h6
        refine ⟨_, sliced a l.toNat h'.toNat cap (szOf P ee), hK, ?_, by
          rw [run_sliceAt_slice w t _ _ _ _ (by rw [hel]; exact h1), run_slice_any w t _ _ _ (by rw [hel]; exact h1), this, hel]
          simp only [Result.andThen_ok, run_szOf h3]⟩
        simp only [RV, sliced, e2]
        refine ⟨_, _, rfl, by omega, fun hn => ?_, h7, fun R' hR' => ?_⟩
        · split at hn
          · rename_i he; have := h60 hn; omega
          · cases a with
            | none => have := h60 rfl; omega
            | some a => cases hn
        · rw [hR] at hR'
          cases hR'
          rcases h8 R hR with ⟨h9, h10, rfl, rfl⟩ | ⟨q, a', rfl, rfl, h10, h11⟩
          · exact .inl ⟨h9, by omega, by split <;> rfl, by omega⟩
          · refine .inr ⟨q, if cap = l.toNat then a' else a'.add (l.toNat * szOf P ee), rfl, by split <;> rfl, ?_, fun hk0 => ?_⟩
            · by_cases he : cap = l.toNat
              · exact .inl (by omega)
              · rw [if_neg he]
                rcases h10 with h10 | rfl
                · omega
                · refine .inr ?_
                  rw [Addr.add_lit]
                  simp [Nat.add_assoc]
            · have h12 := h11 hk0
              replace hB := hB.sl h11
              rcases hB with ⟨k0, _, _⟩ | ⟨q', k1, k2, _, _, _⟩
              · cases k0
              cases k1
              have h13 : q.k = szOf P ee := by rw [k2]; exact hBk.resolve_left (by rw [← k2]; exact hk0)
              rw [← h13]
              have h14 : l.toNat * q.k + (cap - l.toNat) * q.k = cap * q.k := by rw [← Nat.add_mul]; congr 1; omega
              omega
      · exact h.elim
    · exact h.elim
  · rename_i c n
    split at h
    · rename_i k l h' hk hl hh
      obtain ⟨ee, h1, rfl, h3⟩ := elemOf_spec hk
      obtain ⟨⟨c1, c2, c3, c4⟩, hK⟩ := h
      have hel : P.elem t = ee := by simp [Program.elem, h1]
      have e2 : h'.toNat - l.toNat = (h' - l).toNat := by omega
      simp only [RV] at hx
      rcases hx with ⟨rfl, rfl, rfl⟩ | ⟨a, cap, rfl, h6, h7⟩
      · have := bounds_run (P := P) (E := E) (w := w) (isl := true) (d := 0) (n := 0) (cap := 0) hlo hlo' hhi hhi' hl hh c1 c2 (by omega) (Nat.le_refl _)
        refine ⟨_, sliced none l.toNat h'.toNat 0 (szOf P ee), hK, ?_, by
          rw [run_sliceAt_slice w t _ _ _ _ (by rw [hel]; exact h1), run_slice_any w t _ _ _ (by rw [hel]; exact h1), this, hel]
          simp only [Result.andThen_ok, run_szOf h3]⟩
        simp only [RV, sliced, e2]
        exact .inl ⟨by omega, by simp, by congr 1 <;> first | omega | (split <;> rfl)⟩
      · have := bounds_run (P := P) (E := E) (w := w) (isl := true) (d := 0) (n := n) (cap := cap) hlo hlo' hhi hhi' hl hh c1 c2 (by omega) h6
        refine ⟨_, sliced (some a) l.toNat h'.toNat cap (szOf P ee), hK, ?_, by
          rw [run_sliceAt_slice w t _ _ _ _ (by rw [hel]; exact h1), run_slice_any w t _ _ _ (by rw [hel]; exact h1), this, hel]
          simp only [Result.andThen_ok, run_szOf h3]⟩
        simp only [RV, sliced, e2]
        refine .inr ⟨if cap = l.toNat then a else a.add (l.toNat * szOf P ee), _, by split <;> rfl, by omega, ?_⟩
        rcases h7 with rfl | ⟨h7, h8⟩
        · exact .inl (by simp)
        · by_cases he : cap = l.toNat
          · refine .inl ?_
            have : (h' - l).toNat = 0 := by omega
            simp [this]
          · rw [if_neg he, add_spot _ _ h7]
            exact .inr ⟨rfl, (h8.drop _).take _⟩
    · exact h.elim
  · simp only [RV] at hx
    subst hx
    split at h
    · rename_i k l h' hk hl hh
      obtain ⟨ee, h1, rfl, h3⟩ := elemOf_spec hk
      obtain ⟨⟨rfl, rfl⟩, hK⟩ := h
      have hel : P.elem t = ee := by simp [Program.elem, h1]
      have := bounds_run (P := P) (E := E) (w := w) (isl := true) (d := 0) (n := 0) (cap := 0) hlo hlo' hhi hhi' hl hh (Int.le_refl _) (Int.le_refl _) (Int.le_refl _) (Nat.le_refl _)
      refine ⟨_, .slice none 0 0, hK, by simp only [RV], ?_⟩
      rw [run_sliceAt_slice w t _ _ _ _ (by rw [hel]; exact h1), run_slice_any w t _ _ _ (by rw [hel]; exact h1), this, hel]
      simp only [Result.andThen_ok, run_szOf h3, sliced]
      rfl
    · exact h.elim
  · rename_i b ver o
    split at h
    · rename_i n k ver' B hk hb
      split at h
      · rename_i l h' hl hh
        obtain ⟨ee, h1, rfl, h3⟩ := arrOf_spec hk
        obtain ⟨⟨rfl, hBk, c1, c2, c3⟩, hK⟩ := h
        obtain ⟨R, hR, hB⟩ := H.live b ver B hb
        simp only [RV] at hx
        obtain ⟨p, rfl, h7, h8⟩ := hx
        have e2 : h'.toNat - l.toNat = (h' - l).toNat := by omega
        have := bounds_run (P := P) (E := E) (w := w) (isl := false) (d := 0) (n := n) (cap := n) hlo hlo' hhi hhi' hl hh c1 c2 c3 (Nat.le_refl _)
        refine ⟨_, .slice (some (if n = l.toNat then p else p.add (l.toNat * szOf P ee))) (h'.toNat - l.toNat) (n - l.toNat), hK, ?_, by
          simp [Instr.sliceAt, run_underlying h1, Instr.sureAddr, this, run_szOf h3]⟩
        simp only [RV, e2]
        refine ⟨_, _, rfl, by omega, (fun hn => by cases hn), h7, fun R' hR' => ?_⟩
        rw [hR] at hR'
        cases hR'
        obtain ⟨q, rfl, rfl, hnm⟩ := h8 R hR
        replace hB := hB.at hnm
        refine .inr ⟨q, _, rfl, rfl, ?_, fun hk0 => ?_⟩
        · by_cases he : n = l.toNat
          · exact .inl (by omega)
          · rw [if_neg he, Addr.add_lit]
            exact .inr (by simp [Nat.add_assoc])
        · rcases hB with ⟨k0, _, _⟩ | ⟨q', k1, k2, _, _, _⟩
          · cases k0
          cases k1
          exact absurd (k2.trans hBk) hk0
      · exact h.elim
    · exact h.elim
  · rename_i c
    split at h
    · rename_i n k hk
      split at h
      · rename_i l h' hl hh
        obtain ⟨ee, h1, rfl, h3⟩ := arrOf_spec hk
        obtain ⟨⟨c1, c2, c3, c4⟩, hK⟩ := h
        simp only [RV] at hx
        obtain ⟨p, rfl, h7, h8⟩ := hx
        have e2 : h'.toNat - l.toNat = (h' - l).toNat := by omega
        have := bounds_run (P := P) (E := E) (w := w) (isl := false) (d := 0) (n := n) (cap := n) hlo hlo' hhi hhi' hl hh c1 c2 c3 (Nat.le_refl _)
        refine ⟨_, .slice (some (if n = l.toNat then p else p.add (l.toNat * szOf P ee))) (h'.toNat - l.toNat) (n - l.toNat), hK, ?_, by
          simp [Instr.sliceAt, run_underlying h1, Instr.sureAddr, this, run_szOf h3]⟩
        simp only [RV, e2]
        refine .inr ⟨_, _, rfl, by omega, ?_⟩
        by_cases he : n = l.toNat
        · refine .inl ?_
          have : (h' - l).toNat = 0 := by omega
          simp [this]
        · rw [if_neg he, add_spot _ _ h7]
          exact .inr ⟨rfl, (h8.drop _).take _⟩
      · exact h.elim
    · exact h.elim
  · exact h.elim
end
end Go.Proofs.YtnkdkajllmopaaaGreat.TL

namespace Go.Proofs.YtnkdkajllmopaaaGreat.TL
open Go
set_option linter.unusedVariables false
set_option linter.unusedSimpArgs false

section
variable {P : Program} {e : Ent} {E : Env} {s : TS} {w : World}

/-- What an operation with memory comes to. -/
def Goes (e : Ent) (E : Env) (K : TV → Heap → Prop) (w : World) (R : Result Value) : Prop :=
  ∃ r h' v w' E', K r h' ∧ E.Le E' ∧ SatH e E' h' w' ∧ RV E' r v ∧ R = .ok v w'

def allocT (P : Program) (d t : Nat) (s : TS) (K : TV → Heap → Prop) : Prop :=
  match zeroOf P t with
  | some zs => ∀ v, K (.at d v 0) (setH s.h d (v, ⟨0, zs.map .v⟩))
  | none => False

theorem at_new {H : SatH e E s.h w} {b o : Nat} {q : Real} (hq : q.k = 0 ∨ q.base ≤ q.sz) : RV (E.slot b (some q)) (.at b (E.c + 1) o) (.pointer (some ⟨q.r, q.base + o, none⟩)) := by
  simp only [RV]
  refine ⟨_, rfl, by simp [Env.slot], fun R hR => ?_⟩
  simp [Env.slot] at hR
  exact ⟨q, hR.symm, rfl, hq⟩

theorem allocT_sound {d t : Nat} {K : TV → Heap → Prop} (H : SatH e E s.h w) (h : allocT P d t s K) :
    Goes e E K w ((Instr.alloc t true (.tuple #[])).run P w) := by
  unfold allocT at h
  split at h
  · rename_i zs hz
    unfold zeroOf at hz
    cases hi : P.info? t with
    | none => simp [hi] at hz
    | some i =>
      cases hzv : i.zero with
      | none => simp [hi, hzv] at hz
      | some z =>
        simp [hi, hzv] at hz
        subst hz
        have := H.alloc d 0 (z.cells.toList.map .v) z.cells t (by simp) (by simpa using RVl_map_v E z.cells.toList)
        exact ⟨_, _, .pointer (some ⟨w.heap.size, 0, none⟩), _, _, h _, H.le_slot _ _, this, at_new (H := H) (o := 0) (.inl rfl), by simp [Instr.alloc, zeroValue, typeInfo, hi, hzv, newVar, newRow]⟩
  · exact h.elim

def boxT (d : Nat) (s : TS) (x : TV) (K : TV → Heap → Prop) : Prop :=
  match cellsOf x with
  | some l => ∀ v, K (.at d v 0) (setH s.h d (v, ⟨0, l⟩))
  | none => False

theorem boxT_sound {d t : Nat} {x : TV} {u : Value} {K : TV → Heap → Prop} (H : SatH e E s.h w) (hx : RV E x u) (h : boxT d s x K) :
    Goes e E K w ((Instr.box t u).run P w) := by
  unfold boxT at h
  split at h
  · rename_i l hl
    obtain ⟨h1, h2⟩ := cellsOf_sound hx hl
    have := H.alloc d 0 l u.cells t (by rw [← h1]; simp) (by simpa using h2)
    exact ⟨_, _, .pointer (some ⟨w.heap.size, 0, none⟩), _, _, h _, H.le_slot _ _, this, at_new (H := H) (o := 0) (.inl rfl), by simp [Instr.box, newVar, newRow]⟩
  · exact h.elim

/-- Parts laid into cells. -/
def fillT (place : Nat → Option (Nat × Nat)) (cells : List TV) : List (Nat × TV) → Option (List TV)
  | [] => some cells
  | (i, x) :: rest => match place i, cellsOf x with
    | some (o, k), some l => if l.length = k ∧ o + l.length ≤ cells.length then fillT place (over cells o l) rest else none
    | _, _ => none

theorem foldl_set (vs : List Value) : ∀ (o : Nat) (cs : Array Value), o + vs.length ≤ cs.size →
    ((vs.zipIdx).foldl (fun cs (c, j) => cs.setIfInBounds (o + j) c) cs) = (cs.toList.take o ++ vs ++ cs.toList.drop (o + vs.length)).toArray := by
  have key : ∀ (vs : List Value) (k o : Nat) (cs : Array Value), o + k + vs.length ≤ cs.size →
      ((vs.zipIdx k).foldl (fun cs (c, j) => cs.setIfInBounds (o + j) c) cs).size = cs.size ∧ ∀ i, ((vs.zipIdx k).foldl (fun cs (c, j) => cs.setIfInBounds (o + j) c) cs)[i]? = if o + k ≤ i ∧ i < o + k + vs.length then vs[i - (o + k)]? else cs[i]? := by
    intro vs
    induction vs with
    | nil => intro k o cs h; exact ⟨rfl, fun i => by rw [if_neg (by simp only [List.length_nil]; omega)]; rfl⟩
    | cons v vs ih =>
      intro k o cs h
      simp only [List.length_cons] at h
      obtain ⟨h1, h2⟩ := ih (k + 1) o (cs.setIfInBounds (o + k) v) (by simp; omega)
      simp only [List.zipIdx_cons, List.foldl_cons]
      refine ⟨by rw [h1]; simp, fun i => ?_⟩
      rw [h2 i]
      simp only [List.length_cons, Array.getElem?_setIfInBounds]
      by_cases hi : o + k = i
      · subst hi
        rw [if_neg (by omega), if_pos rfl, if_pos (by omega), if_pos ⟨by omega, by omega⟩]
        simp
      · by_cases hj : o + (k + 1) ≤ i ∧ i < o + (k + 1) + vs.length
        · rw [if_pos hj, if_pos ⟨by omega, by omega⟩]
          rw [show i - (o + k) = (i - (o + (k + 1))) + 1 by omega]
          simp
        · rw [if_neg hj, if_neg hi, if_neg (by omega)]
  intro o cs h
  obtain ⟨h1, h2⟩ := key vs 0 o cs (by omega)
  apply Array.ext_getElem?
  intro i
  rw [h2 i]
  simp only [Nat.add_zero, List.getElem?_toArray]
  rw [List.append_assoc, List.getElem?_append, List.length_take]
  have hs : cs.toList.length = cs.size := by simp
  by_cases h3 : i < o
  · rw [if_neg (by omega), if_pos (by omega), List.getElem?_take, if_pos h3]; simp
  · rw [if_neg (c := i < min o cs.toList.length) (by omega), List.getElem?_append]
    by_cases h4 : i < o + vs.length
    · rw [if_pos ⟨by omega, by omega⟩, if_pos (by omega)]
      congr 1; omega
    · rw [if_neg (by omega), if_neg (by omega), List.getElem?_drop]
      simp only [Array.getElem?_toList]
      congr 1; omega

theorem fillT_sound {place : Nat → Option (Nat × Nat)} : ∀ (parts : List (Nat × TV)) (vals : List (Nat × Value)) (cells : List TV) (cs : Array Value) (l : List TV),
    parts.length = vals.length → (∀ (j i : Nat) (x : TV), parts[j]? = some (i, x) → ∃ v : Value, vals[j]? = some (i, v) ∧ RV E x v) → cs.size = cells.length → RVl E cells (fun i => cs[i]?) 0 → fillT place cells parts = some l →
    ∃ cs' : Array Value, Instr.fill place cs vals = some cs' ∧ cs'.size = l.length ∧ RVl E l (fun i => cs'[i]?) 0
  | [], [], cells, cs, l, _, _, h1, h2, h => by
    simp only [fillT, Option.some.injEq] at h
    subst h
    exact ⟨cs, rfl, h1, h2⟩
  | (i, x) :: rest, (i', v) :: vrest, cells, cs, l, hl, hp, h1, h2, h => by
    obtain ⟨v', hv', hx⟩ := hp 0 i x rfl
    simp at hv'
    obtain ⟨rfl, rfl⟩ := hv'
    simp only [fillT] at h
    split at h
    · rename_i o k new hpl hnew
      split at h
      · rename_i hc
        obtain ⟨hc1, hc2⟩ := hc
        obtain ⟨c1, c2⟩ := cellsOf_sound hx hnew
        have hsz : v.cells.size = new.length := by rw [← c1]; simp
        have hfold := foldl_set v.cells.toList o cs (by simp [hsz]; omega)
        have hfold' : (v.cells.zipIdx.foldl (fun cs (c, j) => cs.setIfInBounds (o + j) c) cs) = (cs.toList.take o ++ v.cells.toList ++ cs.toList.drop (o + v.cells.toList.length)).toArray := by
          rw [← hfold, ← Array.foldl_toList, Array.toList_zipIdx]
        obtain ⟨cs', k1, k2, k3⟩ := fillT_sound rest vrest (over cells o new) (v.cells.zipIdx.foldl (fun cs (c, j) => cs.setIfInBounds (o + j) c) cs) l (by simpa using hl) (fun j i x hj => by
            have := hp (j + 1) i x (by simpa using hj)
            simpa using this) (by rw [hfold', over_length hc2]; simp [hsz]; omega) (by
          refine RVl.over h2 (RVl.of fun j y hy => ?_) hc2 (fun j hj => ?_)
          · obtain ⟨u, u1, u2⟩ := c2.get j y hy
            refine ⟨u, ?_, u2⟩
            rw [hfold']
            simp only [Nat.zero_add] at u1 ⊢
            have hjl : j < new.length := (List.getElem?_eq_some_iff.1 hy).1
            simp only [List.getElem?_toArray]
            rw [List.append_assoc, List.getElem?_append, List.length_take, if_neg (by simp; omega), List.getElem?_append, if_pos (by simp; omega), ← u1]
            congr 1
            simp
            omega
          · rw [hfold']
            simp only [Nat.zero_add, List.getElem?_toArray]
            rw [List.append_assoc, List.getElem?_append, List.length_take]
            rcases hj with hj | hj
            · rw [if_pos (by simp; omega), List.getElem?_take, if_pos hj]; simp
            · rw [if_neg (by simp; omega), List.getElem?_append, if_neg (by simp; omega), List.getElem?_drop]
              simp only [Array.getElem?_toList]
              congr 1
              simp
              omega) h
        refine ⟨cs', ?_, k2, k3⟩
        simp only [Instr.fill, hpl]
        rw [if_neg (by simp [hsz, hc1]; omega)]
        exact k1
      · cases h
    · cases h
  | [], _ :: _, _, _, _, hl, _, _, _, _ => by simp at hl
  | _ :: _, [], _, _, _, hl, _, _, _, _ => by simp at hl

end
end Go.Proofs.YtnkdkajllmopaaaGreat.TL

namespace Go.Proofs.YtnkdkajllmopaaaGreat.TL
open Go
set_option linter.unusedVariables false
set_option linter.unusedSimpArgs false

section
variable {P : Program} {e : Ent} {E : Env} {s : TS} {w : World}

/-- The places of a struct's fields, of an array's elements. -/
def plcOf (P : Program) (t : Nat) : Option (List (Nat × Nat)) :=
  match P.underlying t with
  | some (.struct fs) => fs.toList.mapM fun f => (P.info? f.type).map fun i => (f.offset, i.size)
  | some (.array n e) => if 0 < szOf P e then some ((List.range n).map fun i => (i * szOf P e, szOf P e)) else none
  | _ => none

def buildT (P : Program) (t : Nat) (parts : List (Nat × TV)) (K : TV → Prop) : Prop :=
  match plcOf P t, zeroOf P t with
  | some pl, some zs => match fillT (fun i => pl[i]?) (zs.map .v) parts with
    | some l => K (.agg l)
    | none => False
  | _, _ => False

theorem fill_weaken {p p' : Nat → Option (Nat × Nat)} (hp : ∀ i x, p i = some x → p' i = some x) : ∀ (vals : List (Nat × Value)) (cs r : Array Value), Instr.fill p cs vals = some r → Instr.fill p' cs vals = some r
  | [], _, _, h => h
  | (i, v) :: rest, cs, r, h => by
    simp only [Instr.fill] at h ⊢
    cases hi : p i with
    | none => rw [hi] at h; cases h
    | some x =>
      obtain ⟨o, k⟩ := x
      rw [hi] at h
      rw [hp i _ hi]
      simp only at h ⊢
      split at h
      · cases h
      · rename_i hc
        rw [if_neg hc]
        exact fill_weaken hp rest _ _ h

theorem buildT_sound {t : Nat} {parts : List (Nat × TV)} {vals : Array (Nat × Value)} {K : TV → Prop} (hl : parts.length = vals.toList.length)
    (hp : ∀ (j i : Nat) (x : TV), parts[j]? = some (i, x) → ∃ v : Value, vals.toList[j]? = some (i, v) ∧ RV E x v) (h : buildT P t parts K) :
    ∃ r z, K r ∧ RV E r z ∧ (Instr.build t vals).run P w = .ok z w := by
  unfold buildT at h
  split at h
  · rename_i pl zs hpl hz
    split at h
    · rename_i l hfill
      unfold zeroOf at hz
      cases hi : P.info? t with
      | none => simp [hi] at hz
      | some i =>
        cases hzv : i.zero with
        | none => simp [hi, hzv] at hz
        | some z =>
          simp [hi, hzv] at hz
          subst hz
          obtain ⟨cs', k1, k2, k3⟩ := fillT_sound (E := E) parts vals.toList _ z.cells l hl hp (by simp) (by simpa using RVl_map_v E z.cells.toList) hfill
          refine ⟨_, .agg cs', h, by simp only [RV]; exact ⟨cs'.toList, by simp, by simpa using k2, by simpa using k3⟩, ?_⟩
          unfold plcOf at hpl
          split at hpl
          · rename_i fs hu
            have hr := run_places (P := P) w fs.toList pl hpl
            have : (fs.mapM fun f => Prod.mk f.offset <$> sizeOf f.type : Sem (Array (Nat × Nat))).run P w = .ok pl.toArray w := by
              rw [Array.mapM_eq_mapM_toList]
              simp [hr]
            simp [Instr.build, run_underlying hu, zeroValue, typeInfo, hi, hzv, this]
            rw [k1]
            simp
          · rename_i n ee hu
            split at hpl
            · rename_i hsz
              cases hpl
              have k1' := fill_weaken (p' := fun i => some (i * szOf P ee, szOf P ee)) (fun i x hx => by
                simp only [List.getElem?_map] at hx
                cases hr : (List.range n)[i]? with
                | none => rw [hr] at hx; cases hx
                | some j =>
                  rw [hr] at hx
                  have : j = i := by
                    have := List.getElem?_eq_some_iff.1 hr
                    obtain ⟨h1, h2⟩ := this
                    simp at h2
                    exact h2.symm
                  subst this
                  simpa using hx) _ _ _ k1
              simp [Instr.build, run_underlying hu, zeroValue, typeInfo, hi, hzv, run_szOf hsz, k1']
            · cases hpl
          · cases hpl
    · exact h.elim
  · exact h.elim

def buildSliceT (P : Program) (d t len : Nat) (parts : List (Nat × TV)) (s : TS) (K : TV → Heap → Prop) : Prop :=
  match elemOf P t with
  | some k => match fillT (fun i => some (i * k, k)) (List.replicate (len * k) .any) parts with
    | some l => len * k ≤ 16777216 ∧ ∀ v, K (.sl d v 0 len) (setH s.h d (v, ⟨k, l⟩))
    | none => False
  | none => False

theorem fillT_length {place : Nat → Option (Nat × Nat)} : ∀ (parts : List (Nat × TV)) (cells l : List TV), fillT place cells parts = some l → l.length = cells.length
  | [], cells, l, h => by simp only [fillT, Option.some.injEq] at h; rw [h]
  | (i, x) :: rest, cells, l, h => by
    simp only [fillT] at h
    split at h
    · split at h
      · rename_i hc
        rw [fillT_length rest _ l h, over_length hc.2]
      · cases h
    · cases h

theorem sl_new (H : SatH e E s.h w) {b n cap : Nat} {q : Real} (hn : n ≤ cap) (hk : q.k ≠ 0 → q.base + cap * q.k = q.sz) : RV (E.slot b (some q)) (.sl b (E.c + 1) 0 n) (.slice (some ⟨q.r, q.base, none⟩) n cap) := by
  simp only [RV]
  refine ⟨_, _, rfl, hn, (fun hh => by cases hh), by simp [Env.slot], fun R hR => ?_⟩
  simp [Env.slot] at hR
  exact .inr ⟨q, _, hR.symm, rfl, .inr rfl, hk⟩

theorem buildSliceT_sound {d t len : Nat} {parts : List (Nat × TV)} {vals : Array (Nat × Value)} {K : TV → Heap → Prop} (H : SatH e E s.h w) (hl : parts.length = vals.toList.length)
    (hp : ∀ (j i : Nat) (x : TV), parts[j]? = some (i, x) → ∃ v : Value, vals.toList[j]? = some (i, v) ∧ RV E x v) (h : buildSliceT P d t len parts s K) :
    Goes e E K w ((Instr.buildSlice t len vals).run P w) := by
  unfold buildSliceT at h
  split at h
  · rename_i k hk
    split at h
    · rename_i l hfill
      obtain ⟨hlen, hK⟩ := h
      obtain ⟨ee, i, z, h1, h2, h3, h4, h5, h6, h7⟩ := elemOf_all hk
      have hll := fillT_length _ _ _ hfill
      simp only [List.length_replicate] at hll
      let zc : Array Value := if len * k = 0 then #[] else z.cells
      obtain ⟨cs', k1, k2, k3⟩ := fillT_sound (E := E) parts vals.toList _ ((Array.range (len * k)).map (zc[· % zc.size]!)) l hl hp (by simp) (RVl.of fun j x hx => by
        have hj := (List.getElem?_eq_some_iff.1 hx).1
        simp only [List.length_replicate] at hj
        rw [List.getElem?_eq_getElem (by simpa using hj)] at hx
        simp at hx
        subst hx
        exact ⟨_, Array.getElem?_eq_getElem (by simpa using hj), by simp only [RV]⟩) hfill
      have hA := H.alloc d k l cs' ee (by omega) k3
      refine ⟨_, _, .slice (some ⟨w.heap.size, 0, none⟩) len len, _, _, hK _, H.le_slot _ _, hA, sl_new H (Nat.le_refl _) (fun _ => by simp; omega), ?_⟩
      have hn : ¬ (16777216 < len * k) := by omega
      subst h2
      by_cases h0 : len * szOf P ee = 0
      · have hzc : zc = #[] := by simp [zc, h0]
        rw [hzc] at k1
        simp [Instr.buildSlice, run_underlying h1, run_szOf h3, hn, h0, newRow]
        simp [h0] at k1
        simp [k1]
      · have hzc : zc = z.cells := by simp [zc, h0]
        rw [hzc] at k1
        simp [Instr.buildSlice, run_underlying h1, run_szOf h3, hn, h0, newRow, zeroValue, typeInfo, h4, h6, k1]
    · exact h.elim
  · exact h.elim

def lenT (P : Program) (t : Nat) (x : TV) (K : TV → Prop) : Prop :=
  match x with
  | .v (.string z) => kdOf P t = .str ∧ K (.v (.int .i64 (sl z).length))
  | .sl _ _ _ n | .isl _ n => (elemOf P t).isSome = true ∧ K (.v (.int .i64 n))
  | .v (.slice none 0 0) => (elemOf P t).isSome = true ∧ K (.v (.int .i64 0))
  | _ => False

theorem lenT_sound {t ty : Nat} {ts : Array Nat} {vs : Array Value} {x : TV} {u : Value} {K : TV → Prop} (ht : ts[0]? = some t) (hv : vs[0]? = some u) (hx : RV E x u) (h : lenT P t x K) :
    ∃ r z, K r ∧ RV E r z ∧ (Builtin.len_ ts ty vs).run P w = .ok z w := by
  unfold lenT at h
  split at h
  · simp only [RV] at hx; subst hx
    obtain ⟨hk, h⟩ := h
    refine ⟨_, _, h, by simp only [RV]; rfl, ?_⟩
    simp [Builtin.len_, ht, hv, run_underlying (kdOf_str hk), goInt, size_sl]
  · obtain ⟨hk, h⟩ := h
    obtain ⟨k, hk⟩ := Option.isSome_iff_exists.1 hk
    obtain ⟨ee, h1, _, _⟩ := elemOf_spec hk
    simp only [RV] at hx
    obtain ⟨a, cap, rfl, _⟩ := hx
    exact ⟨_, _, h, by simp only [RV]; rfl, by simp [Builtin.len_, ht, hv, run_underlying h1, goInt]⟩
  · obtain ⟨hk, h⟩ := h
    obtain ⟨k, hk⟩ := Option.isSome_iff_exists.1 hk
    obtain ⟨ee, h1, _, _⟩ := elemOf_spec hk
    simp only [RV] at hx
    rcases hx with ⟨rfl, _, rfl⟩ | ⟨a, cap, rfl, _⟩
    · exact ⟨_, _, h, by simp only [RV]; rfl, by simp [Builtin.len_, ht, hv, run_underlying h1, goInt]⟩
    · exact ⟨_, _, h, by simp only [RV]; rfl, by simp [Builtin.len_, ht, hv, run_underlying h1, goInt]⟩
  · obtain ⟨hk, h⟩ := h
    obtain ⟨k, hk⟩ := Option.isSome_iff_exists.1 hk
    obtain ⟨ee, h1, _, _⟩ := elemOf_spec hk
    simp only [RV] at hx
    subst hx
    exact ⟨_, _, h, by simp only [RV]; rfl, by simp [Builtin.len_, ht, hv, run_underlying h1, goInt]⟩
  · exact h.elim

/-- The least, the greatest of two numbers. -/
def mmT (mx : Bool) (x y : TV) (K : TV → Prop) : Prop :=
  match x, y with
  | .v (.int k a), .v (.int k' b) => K (.v (.int k (if mx then max a b else min a b)))
  | _, _ => False

theorem mmT_sound {ty : Nat} {ts : Array Nat} {x y : TV} {u v : Value} {K : TV → Prop} (mx : Bool) (hx : RV E x u) (hy : RV E y v) (h : mmT mx x y K) :
    ∃ r z, K r ∧ RV E r z ∧ ((if mx then Builtin.max_ ts ty #[u, v] else Builtin.min_ ts ty #[u, v]).run P w = .ok z w) := by
  unfold mmT at h
  split at h
  · rename_i k a k' b
    simp only [RV] at hx hy
    subst hx hy
    cases mx
    · refine ⟨_, _, h, by simp only [RV]; rfl, ?_⟩
      simp only [Bool.false_eq_true, if_false, Builtin.min_, List.foldlM_cons, List.foldlM_nil, Builtin.min2, Sem.run_bind, Sem.run_pure, Result.andThen_ok]
      congr 2
      split <;> omega
    · refine ⟨_, _, h, by simp only [RV]; rfl, ?_⟩
      simp only [if_true, Builtin.max_, List.foldlM_cons, List.foldlM_nil, Builtin.max2, Sem.run_bind, Sem.run_pure, Result.andThen_ok]
      congr 2
      split <;> omega
  · exact h.elim

/-- An array's length, the size of its elements, whether they are structs or arrays. -/
def arrEOf (P : Program) (t : Nat) : Option (Nat × Nat × Bool) :=
  match P.underlying t with
  | some (.array n e) => if 0 < szOf P e ∧ hasU P e = true then some (n, szOf P e, isAg P e) else none
  | _ => none
theorem arrEOf_spec {t n k : Nat} {ag : Bool} (h : arrEOf P t = some (n, k, ag)) : ∃ e, P.underlying t = some (.array n e) ∧ szOf P e = k ∧ 0 < k ∧ hasU P e = true ∧ isAg P e = ag := by
  unfold arrEOf at h
  split at h
  · rename_i n' e he
    split at h
    · rename_i hc
      cases h
      exact ⟨e, he, rfl, hc.1, hc.2, rfl⟩
    · cases h
  · cases h

def indexT (P : Program) (t : Nat) (x i : TV) (K : TV → Prop) : Prop :=
  match x, i with
  | .agg l, .v (.int _ i) => match arrEOf P t with
    | some (n, k, false) => (0 ≤ i ∧ i < n) ∧ match l.drop (i.toNat * k) with | z :: _ => K z | [] => False
    | _ => False
  | .v (.string z), .v (.int _ i) => kdOf P t = .str ∧ (0 ≤ i ∧ i < (sl z).length) ∧ K (.v (.int .u8 (((sl z).getD i.toNat 0).toNat)))
  | _, _ => False

theorem indexT_sound {t : Nat} {x i : TV} {u v : Value} {K : TV → Prop} (hx : RV E x u) (hi : RV E i v) (h : indexT P t x i K) :
    ∃ r z, K r ∧ RV E r z ∧ (Instr.index t u v).run P w = .ok z w := by
  unfold indexT at h
  split at h
  · rename_i l ki i
    split at h
    · rename_i n k hk
      obtain ⟨e, h1, rfl, h3, h4, h5⟩ := arrEOf_spec hk
      obtain ⟨⟨c1, c2⟩, h⟩ := h
      simp only [RV] at hx hi
      subst hi
      obtain ⟨zs, rfl, z1, z2⟩ := hx
      split at h
      · rename_i z l' hd
        have hz : l[i.toNat * szOf P e]? = some z := by
          have := List.getElem?_drop (xs := l) (i := i.toNat * szOf P e) (j := 0)
          rw [hd] at this
          simpa using this.symm
        obtain ⟨v, k1, k2⟩ := z2.get _ z hz
        refine ⟨z, v, h, k2, ?_⟩
        rw [Nat.zero_add] at k1
        have hc : ¬ (i < 0 ∨ (n : Int) ≤ i) := by omega
        simp [Instr.index, asIntOf, run_underlying h1, c1, c2, asAgg, part, run_isAg h4, h5, run_szOf h3, k1]
      · exact h.elim
    · exact h.elim
  · rename_i z ki i
    simp only [RV] at hx hi
    subst hx hi
    obtain ⟨hk, ⟨h1, h2⟩, h⟩ := h
    refine ⟨_, _, h, by simp only [RV]; rfl, ?_⟩
    have hlt : i.toNat < z.size := by rw [size_sl]; omega
    have e1 : z[i.toNat]? = some ((sl z).getD i.toNat 0) := by
      rw [getElem?_pos z i.toNat hlt]
      have : i.toNat < (sl z).length := by omega
      simp [List.getD, this]
      rfl
    simp [Instr.index, asIntOf, run_underlying (kdOf_str hk), h1, e1]
  · exact h.elim

end
end Go.Proofs.YtnkdkajllmopaaaGreat.TL

/- Own words, part 5b: maps whose keys are whole numbers. No program is named here. -/
namespace Go.Proofs.YtnkdkajllmopaaaGreat.TL
open Go
set_option linter.unusedVariables false
set_option linter.unusedSimpArgs false

/-- A map type: its keys' kind, its elements' type. -/
def mapK (P : Program) (t : Nat) : Option (IntKind × Nat) := match P.underlying t with | some (.map k e) => (match P.underlying k with | some (.int q) => some (q, e) | _ => none) | _ => none
def keyT (q : IntKind) : TV → Option Int
  | .tup [.v (.int q' a), _] => if q' = q then some a else none
  | _ => none
def valT : TV → TV
  | .tup [_, v] => v
  | _ => .any
def entT (q : IntKind) (a : Int) (v : TV) : TV := .tup [.v (.int q a), v]
def mget (q : IntKind) (a : Int) : List TV → Option TV
  | [] => none
  | x :: l => if keyT q x = some a then some (valT x) else mget q a l
def keysOk (q : IntKind) (c : List TV) : Prop := ∀ x ∈ c, ∃ a v, x = entT q a v
def mput (q : IntKind) (a : Int) (v : TV) : List TV → List TV
  | [] => [entT q a v]
  | x :: l => if keyT q x = some a then entT q a v :: l else x :: mput q a v l
def mdel (q : IntKind) (a : Int) : List TV → List TV
  | [] => []
  | x :: l => if keyT q x = some a then l else x :: mdel q a l
/-- An element type's zero value. -/
def zT (P : Program) (e : Nat) : Option TV := match (P.info? e).bind (·.zero) with | some (.agg a) => some (.agg (a.toList.map .v)) | some z => some (.v z) | none => none

section
variable {P : Program} {e : Ent} {E : Env} {s : TS} {w : World}
theorem mapK_spec {t ee : Nat} {q : IntKind} (h : mapK P t = some (q, ee)) : ∃ k, P.underlying t = some (.map k ee) ∧ P.underlying k = some (.int q) := by
  unfold mapK at h
  split at h
  · rename_i k e' hk
    split at h
    · rename_i q' hq
      cases h
      exact ⟨k, hk, hq⟩
    · cases h
  · cases h
theorem keyT_ent (q : IntKind) (a : Int) (v : TV) : keyT q (entT q a v) = some a := by simp [keyT, entT]
theorem zT_run {t : Nat} {z : TV} (h : zT P t = some z) : ∃ v, RV E z v ∧ (zeroValue t).run P w = .ok v w := by
  unfold zT at h
  cases hi : P.info? t with
  | none => simp [hi] at h
  | some i =>
    cases hz : i.zero with
    | none => simp [hi, hz] at h
    | some y =>
      refine ⟨y, ?_, by simp [zeroValue, typeInfo, hi, hz]⟩
      simp only [hi, hz, Option.bind_some] at h
      split at h
      · rename_i a ha
        cases ha; cases h
        simp only [RV]
        refine ⟨a.toList, by simp, by simp, RVl.of fun j x hx => ?_⟩
        rw [List.getElem?_map] at hx
        obtain ⟨u, hu, rfl⟩ := Option.map_eq_some_iff.1 hx
        exact ⟨u, by simpa using hu, by simp only [RV]⟩
      · rename_i ha
        cases ha; cases h
        simp only [RV]
      · cases h
/-- What is found under a key. -/
theorem map_find {q : IntKind} (a : Int) : ∀ (cells : List TV) (l : List MapEntry) (i : Nat), l.length = cells.length →
    (∀ (j : Nat) (x : TV), cells[j]? = some x → ∃ b v en, x = entT q b v ∧ l[j]? = some en ∧ en.key = .int q b ∧ RV E v en.val) →
    (Instr.findNow (.int q) (.int q a) l i = some none ∧ mget q a cells = none ∧ (∀ v, mput q a v cells = cells ++ [entT q a v]) ∧ mdel q a cells = cells ∧ ∀ x ∈ l, x.key ≠ .int q a) ∨
    ∃ j en v, Instr.findNow (.int q) (.int q a) l i = some (some (i + j, en.val)) ∧ l[j]? = some en ∧ en.key = .int q a ∧ mget q a cells = some v ∧ RV E v en.val ∧ (∀ x, mput q a x cells = cells.set j (entT q a x)) ∧ mdel q a cells = cells.eraseIdx j
  | [], l, i, hl, h => by
    obtain rfl : l = [] := List.eq_nil_of_length_eq_zero hl
    exact .inl ⟨rfl, rfl, fun _ => rfl, rfl, fun x hx => by cases hx⟩
  | x :: cells, [], i, hl, h => by simp at hl
  | x :: cells, en :: l, i, hl, h => by
    obtain ⟨b, v, en', rfl, h1, h2, h3⟩ := h 0 x rfl
    obtain rfl : en = en' := by simpa using h1
    have hs : Instr.sameNow (.int q) (.int q a) en.key = some (a == b) := by rw [h2]; simp [Instr.sameNow]
    by_cases hab : b = a
    · subst hab
      refine .inr ⟨0, en, v, by simp [Instr.findNow, hs], rfl, h2, ?_, h3, fun x => ?_, ?_⟩
      · simp only [mget, keyT_ent, if_true]; rfl
      · simp only [mput, keyT_ent, if_true, List.set_cons_zero]
      · simp only [mdel, keyT_ent, if_true, List.eraseIdx_cons_zero]
    · have hne : (a == b) = false := by simpa using fun hh : a = b => hab hh.symm
      rw [hne] at hs
      have hk : ¬ (some b = some a) := by simpa using hab
      rcases map_find a cells l (i + 1) (by simpa using hl) (fun j x hx => by obtain ⟨b', v', e', k1, k2, k3, k4⟩ := h (j + 1) x (by simpa using hx); exact ⟨b', v', e', k1, by simpa using k2, k3, k4⟩) with ⟨g1, g2, g3, g4, g5⟩ | ⟨j, e', v', g1, g2, g3, g4, g5, g6, g7⟩
      · refine .inl ⟨by simp [Instr.findNow, hs, g1], by simp only [mget, keyT_ent, if_neg hk, g2], fun v => by simp only [mput, keyT_ent, if_neg hk, g3, List.cons_append], by simp only [mdel, keyT_ent, if_neg hk, g4], fun y hy => ?_⟩
        rcases List.mem_cons.1 hy with rfl | hy
        · rw [h2]; intro hh; cases hh; exact hab rfl
        · exact g5 y hy
      · refine .inr ⟨j + 1, e', v', ?_, by simpa using g2, g3, by simp only [mget, keyT_ent, if_neg hk, g4], g5, fun x => by simp only [mput, keyT_ent, if_neg hk, g6, List.set_cons_succ], by simp only [mdel, keyT_ent, if_neg hk, g7, List.eraseIdx_cons_succ]⟩
        simp [Instr.findNow, hs, g1]
        omega
theorem map_cells {q : IntKind} {cells : List TV} {es : Array MapEntry} (hk : keysOk q cells) (hv : RVl E cells (fun o => es[o]?.map entV) 0) :
    ∀ (j : Nat) (x : TV), cells[j]? = some x → ∃ b v en, x = entT q b v ∧ es.toList[j]? = some en ∧ en.key = .int q b ∧ RV E v en.val := fun j x hx => by
  obtain ⟨b, v, rfl⟩ := hk x (List.mem_of_getElem? hx)
  obtain ⟨u, h1, h2⟩ := hv.get j _ hx
  rw [Nat.zero_add] at h1
  obtain ⟨en, h3, rfl⟩ := Option.map_eq_some_iff.1 h1
  simp only [entT, RV] at h2
  obtain ⟨zs, h4, h5, h6⟩ := h2
  obtain ⟨rfl⟩ : zs = [en.key, en.val] := by simpa [entV] using congrArg Array.toList (Value.tuple.inj h4).symm
  simp only [RVl, RV] at h6
  obtain ⟨⟨_, k1, k2⟩, ⟨_, k3, k4⟩, _⟩ := h6
  cases k1; cases k3
  exact ⟨b, v, en, rfl, by simpa using h3, k2, k4⟩

/-- A map's block. -/
theorem map_live {b ver ver' : Nat} {B : Blk} {y : Value} (H : SatH e E s.h w) (hx : RV E (.mp b ver) y) (hb : getH s.h b = some (ver', B)) (hv : ver = ver') :
    ∃ r es clock, y = .map (some r) ∧ w.heap[r]? = some (.map es clock) ∧ MapKept.Stamped es clock ∧ es.size = B.cells.length ∧ RVl E B.cells (fun o => es[o]?.map entV) 0 ∧ B.k = 0 ∧ E.ρ b = some (ver, some ⟨r, 1, 0, 1⟩) := by
  subst hv
  obtain ⟨R, hR, hB⟩ := H.live b ver B hb
  simp only [RV] at hx
  obtain ⟨r, rfl, _, h2⟩ := hx
  obtain ⟨q, rfl, rfl, h3, h4⟩ := h2 R hR
  rcases hB with (⟨h0, _⟩ | ⟨q', k1, k2, k3, _⟩) | ⟨k0, q', k1, ⟨k2, k3, k4⟩, es, clock, k5, k6, k7, k8⟩
  · cases h0
  · cases k1; omega
  · cases k1
    obtain ⟨r, a, b', c⟩ := q
    simp only at k2 k3 k4
    subst k2 k3 k4
    exact ⟨r, es, clock, rfl, k5, k6, k7, k8, k0, hR⟩

/-- A map's block written. -/
theorem SatH.mapSet {b ver r : Nat} {B : Blk} {es es' : Array MapEntry} {clock clock' : Nat} {cells : List TV} (H : SatH e E s.h w) (hb : getH s.h b = some (ver, B)) (hR : E.ρ b = some (ver, some ⟨r, 1, 0, 1⟩)) (h0 : w.heap[r]? = some (.map es clock)) (hk0 : B.k = 0)
    (h1 : MapKept.Stamped es' clock') (h2 : es'.size = cells.length) (h3 : RVl E cells (fun o => es'[o]?.map entV) 0) :
    SatH e E (setH s.h b (ver, ⟨B.k, cells⟩)) { w with heap := w.heap.setIfInBounds r (.map es' clock') } := by
  obtain ⟨hs1, hs2⟩ := MapKept.heap_set (o' := .map es' clock') h0
  have hsz : (w.heap.setIfInBounds r (.map es' clock')).size = w.heap.size := by simp
  refine ⟨fun r' o v hI => ?_, ?_, ?_, H.vers, fun x ver' q hx => ?_, H.apart, ?_⟩
  · have := H.imm r' o v hI
    have hne : r' ≠ r := fun hh => by have := (H.ownd _ _ _ hR).2.1 o; rw [hh] at hI; rw [this] at hI; cases hI
    simp only [World.cell?, hs2 r' hne] at this ⊢
    exact this
  · intro x ver' B' hx
    rw [getH_setH] at hx
    by_cases hxb : x = b
    · subst hxb
      rw [if_pos rfl] at hx
      cases hx
      exact ⟨_, hR, .inr ⟨hk0, _, rfl, ⟨rfl, rfl, rfl⟩, es', clock', hs1, h1, h2, h3⟩⟩
    · rw [if_neg hxb] at hx
      obtain ⟨R', k1, k2⟩ := H.live x ver' B' hx
      exact ⟨R', k1, k2.mono (Env.Le.refl _) fun q' hq' => hs2 q'.r (fun hr => hxb (H.apart _ _ _ _ _ _ (hq' ▸ k1) hR hr))⟩
  · intro x hx
    rw [getH_setH] at hx
    by_cases hxb : x = b
    · rw [if_pos hxb] at hx; cases hx
    · rw [if_neg hxb] at hx; exact H.dead x hx
  · have := H.ownd x ver' q hx
    exact ⟨by rw [hsz]; exact this.1, this.2⟩
  · refine ⟨by rw [hsz]; exact H.gr.size, fun r' hr hO => ?_, H.gr.os, H.gr.tape, H.gr.output, H.gr.le, H.gr.newI⟩
    rw [hs2 r' (fun hh => ?_)]
    · exact H.gr.frame r' hr hO
    · rcases (H.ownd _ _ _ hR).2.2 with k | k
      · exact hO (hh ▸ k)
      · subst hh; exact absurd hr (Nat.not_lt.2 k)

/-- A map made. -/
def mapT (d : Nat) (s : TS) (K : TV → Heap → Prop) : Prop := ∀ v, K (.mp d v) (setH s.h d (v, ⟨0, []⟩))
/-- A key's element written. -/
def updT (P : Program) (t : Nat) (s : TS) (m key x : TV) (K : TV → Heap → Prop) : Prop :=
  match m, key, mapK P t with
  | .mp b ver, .v (.int q a), some (q', _) => match getH s.h b with
    | some (ver', B) => (ver = ver' ∧ q = q' ∧ keysOk q B.cells) ∧ K .any (setH s.h b (ver', ⟨B.k, mput q a x B.cells⟩))
    | none => False
  | _, _, _ => False
def delT (P : Program) (t : Nat) (s : TS) (m key : TV) (K : TV → Heap → Prop) : Prop :=
  match m, key, mapK P t with
  | .mp b ver, .v (.int q a), some (q', _) => match getH s.h b with
    | some (ver', B) => (ver = ver' ∧ q = q' ∧ keysOk q B.cells) ∧ K (.tup []) (setH s.h b (ver', ⟨B.k, mdel q a B.cells⟩))
    | none => False
  | _, _, _ => False

theorem mapT_sound {d t : Nat} {K : TV → Heap → Prop} (H : SatH e E s.h w) (h : mapT d s K) : Goes e E K w ((Instr.makeMap t none).run P w) := by
  have hle := H.le_slot d (some ⟨w.heap.size, 1, 0, 1⟩)
  refine ⟨_, _, .map (some w.heap.size), w.alloc (.map #[] 0), E.slot d (some ⟨w.heap.size, 1, 0, 1⟩), h (E.c + 1), hle, ?_, ?_, rfl⟩
  · refine H.slot d ⟨0, []⟩ _ _ (by simp) (fun r hr _ => heap_alloc_lt _ _ _ hr) rfl rfl rfl (fun q hq => ?_) (.inr ⟨rfl, _, rfl, ⟨rfl, rfl, rfl⟩, #[], 0, (MapKept.heap_alloc w _).1, MapKept.stamped_empty 0, rfl, by simp only [RVl]⟩)
    cases hq; exact ⟨by simp, .inr (Nat.le_refl _)⟩
  · simp only [RV]
    refine ⟨_, rfl, by simp [Env.slot], fun R hR => ?_⟩
    simp [Env.slot] at hR
    exact ⟨_, hR.symm, rfl, Nat.zero_lt_one, rfl⟩

theorem entV_RV {E : Env} {q : IntKind} {a : Int} {x : TV} {u : Value} (hx : RV E x u) (n : Nat) : RV E (entT q a x) (entV ⟨.int q a, u, n⟩) := by
  simp only [entT, entV, RV]
  exact ⟨[.int q a, u], rfl, rfl, by simp only [RVl, RV]; exact ⟨⟨_, rfl, rfl⟩, ⟨_, rfl, hx⟩, trivial⟩⟩

theorem updT_sound {t : Nat} {m key x : TV} {um uk ux : Value} {K : TV → Heap → Prop} (H : SatH e E s.h w) (hm : RV E m um) (hk : RV E key uk) (hx : RV E x ux) (h : updT P t s m key x K) :
    ∃ h' w', K .any h' ∧ SatH e E h' w' ∧ (Instr.mapUpdate t um uk ux).run P w = .ok () w' := by
  unfold updT at h
  split at h
  · rename_i b ver q a q' ee hmk
    split at h
    · rename_i ver' B hb
      obtain ⟨⟨h1, rfl, hks⟩, hK⟩ := h
      obtain ⟨r, es, clock, rfl, g1, g2, g3, g4, g5, g6⟩ := map_live H hm hb h1
      subst h1
      simp only [RV] at hk
      subst hk
      obtain ⟨kt, u1, u2⟩ := mapK_spec hmk
      have hisk : MapKept.IsKey (.int q) (.int q a) := rfl
      rcases map_find (E := E) a B.cells es.toList 0 (by simpa using g3) (map_cells hks g4) with ⟨f1, f2, f3, f4, f5⟩ | ⟨j, en, v, f1, f2, f3, f4, f5, f6, f7⟩
      · refine ⟨_, { w with heap := w.heap.setIfInBounds r (.map (es.push ⟨.int q a, ux, clock⟩) (clock + 1)) }, hK, ?_, by simp [Instr.mapUpdate, run_underlying u1, MapKept.run_getObj_map g1, MapKept.run_checkKey u2 hisk, MapKept.run_findKey u2 f1, MapKept.run_setObj_map _ g1, Result.andThen]⟩
        rw [f3]
        refine H.mapSet hb g6 g1 g5 (MapKept.stamped_push g2 f5) (by simp [g3]) ?_
        refine RVl.append (RVl.mono (Env.Le.refl _) _ _ _ _ (fun o y hy => ?_) g4) (RVl.of fun o y hy => ?_)
        · obtain ⟨e0, k1, k2⟩ := Option.map_eq_some_iff.1 hy
          have hlt := (Array.getElem?_eq_some_iff.1 k1).1
          show ((es.push _)[o]?).map entV = some y
          rw [Array.getElem?_push, if_neg (by omega), k1]
          exact congrArg some k2
        · cases o with
          | zero =>
            cases hy
            refine ⟨_, ?_, entV_RV hx clock⟩
            show ((es.push _)[0 + B.cells.length + 0]?).map entV = _
            rw [show 0 + B.cells.length + 0 = es.size by omega, Array.getElem?_push, if_pos rfl]
            rfl
          | succ o => simp at hy
      · have hjs : es[j]? = some en := by simpa using f2
        refine ⟨_, { w with heap := w.heap.setIfInBounds r (.map (es.modify j fun e => { e with key := .int q a, val := ux }) clock) }, hK, ?_, by simp [Instr.mapUpdate, run_underlying u1, MapKept.run_getObj_map g1, MapKept.run_checkKey u2 hisk, MapKept.run_findKey u2 f1, hjs, f3, MapKept.run_keyThatStays hisk, MapKept.run_setObj_map _ g1, Result.andThen]⟩
        rw [f6]
        refine H.mapSet hb g6 g1 g5 (MapKept.stamped_modify g2 j _ (fun e0 _ => rfl) (fun e0 _ he0 => by rw [hjs] at he0; cases he0; exact f3.symm)) (by simp [g3]) ?_
        refine RVl.of fun o y hy => ?_
        rw [List.getElem?_set] at hy
        split at hy
        · rename_i hjo
          subst hjo
          split at hy
          · cases hy
            refine ⟨_, ?_, entV_RV hx en.born⟩
            rw [Nat.zero_add, Array.getElem?_modify, if_pos rfl, hjs]
            rfl
          · cases hy
        · rename_i hjo
          obtain ⟨v', k1, k2⟩ := g4.get o y hy
          refine ⟨v', ?_, k2⟩
          rw [Nat.zero_add] at k1 ⊢
          rw [Array.getElem?_modify, if_neg hjo]
          exact k1
    · exact h.elim
  · exact h.elim

theorem delT_sound {t tk ty : Nat} {m key : TV} {um uk : Value} {K : TV → Heap → Prop} (H : SatH e E s.h w) (hm : RV E m um) (hk : RV E key uk) (h : delT P t s m key K) : Goes e E K w ((Builtin.delete_ #[t, tk] ty #[um, uk]).run P w) := by
  unfold delT at h
  split at h
  · rename_i b ver q a q' ee hmk
    split at h
    · rename_i ver' B hb
      obtain ⟨⟨h1, rfl, hks⟩, hK⟩ := h
      obtain ⟨r, es, clock, rfl, g1, g2, g3, g4, g5, g6⟩ := map_live H hm hb h1
      subst h1
      simp only [RV] at hk
      subst hk
      obtain ⟨kt, u1, u2⟩ := mapK_spec hmk
      have hisk : MapKept.IsKey (.int q) (.int q a) := rfl
      rcases map_find (E := E) a B.cells es.toList 0 (by simpa using g3) (map_cells hks g4) with ⟨f1, f2, f3, f4, f5⟩ | ⟨j, en, v, f1, f2, f3, f4, f5, f6, f7⟩
      · refine ⟨_, _, .tuple #[], { w with heap := w.heap.setIfInBounds r (.map es clock) }, E, hK, Env.Le.refl E, ?_, by simp only [RV]; exact ⟨[], rfl, rfl, by simp only [RVl]⟩, by simp [Builtin.delete_, run_underlying u1, MapKept.run_getObj_map g1, MapKept.run_checkKey u2 hisk, MapKept.run_findKey u2 f1, MapKept.run_setObj_map _ g1, Result.andThen]⟩
        rw [f4]
        exact H.mapSet hb g6 g1 g5 g2 g3 g4
      · refine ⟨_, _, .tuple #[], { w with heap := w.heap.setIfInBounds r (.map (es.eraseIdxIfInBounds j) clock) }, E, hK, Env.Le.refl E, ?_, by simp only [RV]; exact ⟨[], rfl, rfl, by simp only [RVl]⟩, by simp [Builtin.delete_, run_underlying u1, MapKept.run_getObj_map g1, MapKept.run_checkKey u2 hisk, MapKept.run_findKey u2 f1, MapKept.run_setObj_map _ g1, Result.andThen]⟩
        have hlt : j < es.size := by have := (List.getElem?_eq_some_iff.1 f2).1; simpa using this
        have hes : es.eraseIdxIfInBounds j = es.eraseIdx j hlt := by unfold Array.eraseIdxIfInBounds; rw [dif_pos hlt]
        rw [f7]
        refine H.mapSet hb g6 g1 g5 (MapKept.stamped_erase g2 _) (by rw [hes, Array.size_eraseIdx, List.length_eraseIdx, if_pos (by omega)]; omega) ?_
        refine RVl.of fun o y hy => ?_
        rw [List.getElem?_eraseIdx] at hy
        have hget : (es.eraseIdxIfInBounds j)[o]? = if o < j then es[o]? else es[o + 1]? := by
          rw [hes]
          have : (es.eraseIdx j hlt)[o]? = (es.toList.eraseIdx j)[o]? := by rw [← Array.toList_eraseIdx (xs := es) (i := j) (h := hlt), Array.getElem?_toList]
          rw [this, List.getElem?_eraseIdx]
          simp
        rw [Nat.zero_add, hget]
        split at hy
        · rename_i ho
          rw [if_pos ho]
          obtain ⟨v', k1, k2⟩ := g4.get o y hy
          exact ⟨v', by rw [← k1, Nat.zero_add], k2⟩
        · rename_i ho
          rw [if_neg ho]
          obtain ⟨v', k1, k2⟩ := g4.get (o + 1) y hy
          exact ⟨v', by rw [← k1, Nat.zero_add], k2⟩
    · exact h.elim
  · exact h.elim

/-- A key's element read. -/
def qlook (P : Program) (s : TS) (t : Nat) (ok : Bool) (m key : TV) : Prop × TV :=
  match m, key, mapK P t with
  | .mp b ver, .v (.int q a), some (q', ee) => match getH s.h b, zT P ee with
    | some (ver', B), some z => (ver = ver' ∧ q = q' ∧ keysOk q B.cells, if ok = true then .tup [(mget q a B.cells).getD z, .v (.bool (mget q a B.cells).isSome)] else (mget q a B.cells).getD z)
    | _, _ => (False, .any)
  | .v (.map none), .v (.int q a), some (q', ee) => match zT P ee with
    | some z => (q = q', if ok = true then .tup [z, .v (.bool false)] else z)
    | none => (False, .any)
  | _, _, _ => (False, .any)
theorem qlook_sound {t : Nat} {ok : Bool} {m key : TV} {um uk : Value} (H : SatH e E s.h w) (hm : RV E m um) (hk : RV E key uk) (h : (qlook P s t ok m key).1) :
    ∃ v, RV E (qlook P s t ok m key).2 v ∧ (Instr.lookup t um uk ok).run P w = .ok v w := by
  have fin : ∀ (r : TV) (u : Value) (g : Bool), RV E r u → RV E (if ok = true then .tup [r, .v (.bool g)] else r) (if ok = true then .tuple #[u, .bool g] else u) := fun r u g hr => by
    cases ok
    · simpa using hr
    · simp only [if_true, RV]
      exact ⟨[u, .bool g], rfl, rfl, by simp only [RVl, RV]; exact ⟨⟨_, rfl, hr⟩, ⟨_, rfl, rfl⟩, trivial⟩⟩
  unfold qlook at h ⊢
  split at h
  · rename_i b ver q a q' ee hmk
    split at h
    · rename_i ver' B z hb hz
      obtain ⟨h1, rfl, hks⟩ := h
      obtain ⟨r, es, clock, rfl, g1, g2, g3, g4, g5, g6⟩ := map_live H hm hb h1
      simp only [RV] at hk
      subst hk
      obtain ⟨kt, u1, u2⟩ := mapK_spec hmk
      have hisk : MapKept.IsKey (.int q) (.int q a) := rfl
      simp only [hmk, hb, hz]
      rcases map_find (E := E) a B.cells es.toList 0 (by simpa using g3) (map_cells hks g4) with ⟨f1, f2, f3, f4, f5⟩ | ⟨j, en, v, f1, f2, f3, f4, f5, f6, f7⟩
      · obtain ⟨zv, z1, z2⟩ := zT_run (E := E) (w := w) hz
        refine ⟨if ok = true then .tuple #[zv, .bool false] else zv, ?_, ?_⟩
        · rw [f2]; exact fin _ _ _ z1
        · simp [Instr.lookup, run_underlying u1, MapKept.run_getObj_map g1, MapKept.run_checkKey u2 hisk, MapKept.run_findKey u2 f1, z2, Result.andThen]
      · refine ⟨if ok = true then .tuple #[en.val, .bool true] else en.val, ?_, ?_⟩
        · rw [f4]; exact fin _ _ _ f5
        · simp [Instr.lookup, run_underlying u1, MapKept.run_getObj_map g1, MapKept.run_checkKey u2 hisk, MapKept.run_findKey u2 f1, Result.andThen]
    · exact h.elim
  · rename_i q a q' ee hmk
    split at h
    · rename_i z hz
      subst h
      simp only [RV] at hk hm
      subst hk hm
      obtain ⟨kt, u1, u2⟩ := mapK_spec hmk
      have hisk : MapKept.IsKey (.int q) (.int q a) := rfl
      have f1 : Instr.findNow (.int q) (.int q a) [] 0 = some none := rfl
      obtain ⟨zv, z1, z2⟩ := zT_run (E := E) (w := w) hz
      simp only [hmk, hz]
      refine ⟨if ok = true then .tuple #[zv, .bool false] else zv, fin _ _ _ z1, ?_⟩
      simp [Instr.lookup, run_underlying u1, MapKept.run_checkKey u2 hisk, MapKept.run_findKey u2 f1, z2, Result.andThen]
    · exact h.elim
  · exact h.elim
/-- How many elements. -/
def qlenM (P : Program) (s : TS) (t : Nat) (x : TV) : Prop × TV :=
  match x with
  | .mp b ver => match getH s.h b with
    | some (ver', B) => (ver = ver' ∧ (mapK P t).isSome = true, .v (.int .i64 B.cells.length))
    | none => (False, .any)
  | .v (.map none) => ((mapK P t).isSome = true, .v (.int .i64 0))
  | _ => (False, .any)
theorem qlenM_sound {t ty : Nat} {x : TV} {u : Value} (H : SatH e E s.h w) (hx : RV E x u) (h : (qlenM P s t x).1) : ∃ v, RV E (qlenM P s t x).2 v ∧ (Builtin.len_ #[t] ty #[u]).run P w = .ok v w := by
  unfold qlenM at h ⊢
  split at h
  · rename_i b ver
    split at h
    · rename_i ver' B hb
      obtain ⟨h1, h2⟩ := h
      obtain ⟨⟨q, ee⟩, hmk⟩ := Option.isSome_iff_exists.1 h2
      obtain ⟨kt, u1, u2⟩ := mapK_spec hmk
      obtain ⟨r, es, clock, rfl, g1, g2, g3, g4, g5, g6⟩ := map_live H hx hb h1
      simp only [hb]
      refine ⟨.int .i64 B.cells.length, by simp only [RV], ?_⟩
      simp [Builtin.len_, run_underlying u1, MapKept.run_getObj_map g1, Result.andThen, g3, goInt]
    · exact h.elim
  · obtain ⟨⟨q, ee⟩, hmk⟩ := Option.isSome_iff_exists.1 h
    obtain ⟨kt, u1, u2⟩ := mapK_spec hmk
    simp only [RV] at hx
    subst hx
    exact ⟨.int .i64 0, by simp only [RV], by simp [Builtin.len_, run_underlying u1, goInt]⟩
  · exact h.elim
end
end Go.Proofs.YtnkdkajllmopaaaGreat.TL
