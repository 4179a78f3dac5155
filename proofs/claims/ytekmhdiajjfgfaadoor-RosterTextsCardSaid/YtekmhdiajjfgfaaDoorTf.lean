/- Own words, part 4: new memory, lengths, the least and the greatest, bytes of texts. No program is named here. -/
import Derived.Test.YtekmhdiajjfgfaaDoorTe
namespace Go.Proofs.YtekmhdiajjfgfaaDoor.TL
open Go
set_option linter.unusedVariables false
set_option linter.unusedSimpArgs false

section
variable {P : Program} {e : Ent} {E : Env} {s : TS} {w : World}

/-- What an operation with memory comes to. -/
def Goes (e : Ent) (E : Env) (K : TV → Heap → Prop) (w : World) (R : Result Value) : Prop :=
  ∃ r h' v w' E', K r h' ∧ E.Le E' ∧ SatH e E' h' w' ∧ RV E' r v ∧ R = .ok v w'

def allocT (P : Program) (d t : Nat) (s : TS) (K : TV → Heap → Prop) : Prop :=
  match zeroOf P t with
  | some zs => ∀ v, K (.at d v 0) (setH s.h d (v, ⟨0, zs.map .v⟩))
  | none => False

theorem at_new {H : SatH e E s.h w} {b o : Nat} {q : Real} : RV (E.slot b (some q)) (.at b (E.c + 1) o) (.pointer (some ⟨q.r, q.base + o, none⟩)) := by
  simp only [RV]
  refine ⟨_, rfl, by simp [Env.slot], fun R hR => ?_⟩
  simp [Env.slot] at hR
  exact ⟨q, hR.symm, rfl⟩

theorem allocT_sound {d t : Nat} {K : TV → Heap → Prop} (H : SatH e E s.h w) (h : allocT P d t s K) :
    Goes e E K w ((Instr.alloc t true (.tuple #[])).run P w) := by
  unfold allocT at h
  split at h
  · rename_i zs hz
    unfold zeroOf at hz
    cases hi : P.info? t with
    | none => simp [hi] at hz
    | some i =>
      cases hzv : i.zero with
      | none => simp [hi, hzv] at hz
      | some z =>
        simp [hi, hzv] at hz
        subst hz
        have := H.alloc d 0 (z.cells.toList.map .v) z.cells t (by simp) (by simpa using RVl_map_v E z.cells.toList)
        exact ⟨_, _, .pointer (some ⟨w.heap.size, 0, none⟩), _, _, h _, H.le_slot _ _, this, at_new (H := H) (o := 0), by simp [Instr.alloc, zeroValue, typeInfo, hi, hzv, newVar, newRow]⟩
  · exact h.elim

def boxT (d : Nat) (s : TS) (x : TV) (K : TV → Heap → Prop) : Prop :=
  match cellsOf x with
  | some l => ∀ v, K (.at d v 0) (setH s.h d (v, ⟨0, l⟩))
  | none => False

theorem boxT_sound {d t : Nat} {x : TV} {u : Value} {K : TV → Heap → Prop} (H : SatH e E s.h w) (hx : RV E x u) (h : boxT d s x K) :
    Goes e E K w ((Instr.box t u).run P w) := by
  unfold boxT at h
  split at h
  · rename_i l hl
    obtain ⟨h1, h2⟩ := cellsOf_sound hx hl
    have := H.alloc d 0 l u.cells t (by rw [← h1]; simp) (by simpa using h2)
    exact ⟨_, _, .pointer (some ⟨w.heap.size, 0, none⟩), _, _, h _, H.le_slot _ _, this, at_new (H := H) (o := 0), by simp [Instr.box, newVar, newRow]⟩
  · exact h.elim

/-- Parts laid into cells. -/
def fillT (place : Nat → Option (Nat × Nat)) (cells : List TV) : List (Nat × TV) → Option (List TV)
  | [] => some cells
  | (i, x) :: rest => match place i, cellsOf x with
    | some (o, k), some l => if l.length = k ∧ o + l.length ≤ cells.length then fillT place (over cells o l) rest else none
    | _, _ => none

theorem foldl_set (vs : List Value) : ∀ (o : Nat) (cs : Array Value), o + vs.length ≤ cs.size →
    ((vs.zipIdx).foldl (fun cs (c, j) => cs.setIfInBounds (o + j) c) cs) = (cs.toList.take o ++ vs ++ cs.toList.drop (o + vs.length)).toArray := by
  have key : ∀ (vs : List Value) (k o : Nat) (cs : Array Value), o + k + vs.length ≤ cs.size →
      ((vs.zipIdx k).foldl (fun cs (c, j) => cs.setIfInBounds (o + j) c) cs).size = cs.size ∧ ∀ i, ((vs.zipIdx k).foldl (fun cs (c, j) => cs.setIfInBounds (o + j) c) cs)[i]? = if o + k ≤ i ∧ i < o + k + vs.length then vs[i - (o + k)]? else cs[i]? := by
    intro vs
    induction vs with
    | nil => intro k o cs h; exact ⟨rfl, fun i => by rw [if_neg (by simp only [List.length_nil]; omega)]; rfl⟩
    | cons v vs ih =>
      intro k o cs h
      simp only [List.length_cons] at h
      obtain ⟨h1, h2⟩ := ih (k + 1) o (cs.setIfInBounds (o + k) v) (by simp; omega)
      simp only [List.zipIdx_cons, List.foldl_cons]
      refine ⟨by rw [h1]; simp, fun i => ?_⟩
      rw [h2 i]
      simp only [List.length_cons, Array.getElem?_setIfInBounds]
      by_cases hi : o + k = i
      · subst hi
        rw [if_neg (by omega), if_pos rfl, if_pos (by omega), if_pos ⟨by omega, by omega⟩]
        simp
      · by_cases hj : o + (k + 1) ≤ i ∧ i < o + (k + 1) + vs.length
        · rw [if_pos hj, if_pos ⟨by omega, by omega⟩]
          rw [show i - (o + k) = (i - (o + (k + 1))) + 1 by omega]
          simp
        · rw [if_neg hj, if_neg hi, if_neg (by omega)]
  intro o cs h
  obtain ⟨h1, h2⟩ := key vs 0 o cs (by omega)
  apply Array.ext_getElem?
  intro i
  rw [h2 i]
  simp only [Nat.add_zero, List.getElem?_toArray]
  rw [List.append_assoc, List.getElem?_append, List.length_take]
  have hs : cs.toList.length = cs.size := by simp
  by_cases h3 : i < o
  · rw [if_neg (by omega), if_pos (by omega), List.getElem?_take, if_pos h3]; simp
  · rw [if_neg (c := i < min o cs.toList.length) (by omega), List.getElem?_append]
    by_cases h4 : i < o + vs.length
    · rw [if_pos ⟨by omega, by omega⟩, if_pos (by omega)]
      congr 1; omega
    · rw [if_neg (by omega), if_neg (by omega), List.getElem?_drop]
      simp only [Array.getElem?_toList]
      congr 1; omega

theorem fillT_sound {place : Nat → Option (Nat × Nat)} : ∀ (parts : List (Nat × TV)) (vals : List (Nat × Value)) (cells : List TV) (cs : Array Value) (l : List TV),
    parts.length = vals.length → (∀ (j i : Nat) (x : TV), parts[j]? = some (i, x) → ∃ v : Value, vals[j]? = some (i, v) ∧ RV E x v) → cs.size = cells.length → RVl E cells (fun i => cs[i]?) 0 → fillT place cells parts = some l →
    ∃ cs' : Array Value, Instr.fill place cs vals = some cs' ∧ cs'.size = l.length ∧ RVl E l (fun i => cs'[i]?) 0
  | [], [], cells, cs, l, _, _, h1, h2, h => by
    simp only [fillT, Option.some.injEq] at h
    subst h
    exact ⟨cs, rfl, h1, h2⟩
  | (i, x) :: rest, (i', v) :: vrest, cells, cs, l, hl, hp, h1, h2, h => by
    obtain ⟨v', hv', hx⟩ := hp 0 i x rfl
    simp at hv'
    obtain ⟨rfl, rfl⟩ := hv'
    simp only [fillT] at h
    split at h
    · rename_i o k new hpl hnew
      split at h
      · rename_i hc
        obtain ⟨hc1, hc2⟩ := hc
        obtain ⟨c1, c2⟩ := cellsOf_sound hx hnew
        have hsz : v.cells.size = new.length := by rw [← c1]; simp
        have hfold := foldl_set v.cells.toList o cs (by simp [hsz]; omega)
        have hfold' : (v.cells.zipIdx.foldl (fun cs (c, j) => cs.setIfInBounds (o + j) c) cs) = (cs.toList.take o ++ v.cells.toList ++ cs.toList.drop (o + v.cells.toList.length)).toArray := by
          rw [← hfold, ← Array.foldl_toList, Array.toList_zipIdx]
        obtain ⟨cs', k1, k2, k3⟩ := fillT_sound rest vrest (over cells o new) (v.cells.zipIdx.foldl (fun cs (c, j) => cs.setIfInBounds (o + j) c) cs) l (by simpa using hl) (fun j i x hj => by
            have := hp (j + 1) i x (by simpa using hj)
            simpa using this) (by rw [hfold', over_length hc2]; simp [hsz]; omega) (by
          refine RVl.over h2 (RVl.of fun j y hy => ?_) hc2 (fun j hj => ?_)
          · obtain ⟨u, u1, u2⟩ := c2.get j y hy
            refine ⟨u, ?_, u2⟩
            rw [hfold']
            simp only [Nat.zero_add] at u1 ⊢
            have hjl : j < new.length := (List.getElem?_eq_some_iff.1 hy).1
            simp only [List.getElem?_toArray]
            rw [List.append_assoc, List.getElem?_append, List.length_take, if_neg (by simp; omega), List.getElem?_append, if_pos (by simp; omega), ← u1]
            congr 1
            simp
            omega
          · rw [hfold']
            simp only [Nat.zero_add, List.getElem?_toArray]
            rw [List.append_assoc, List.getElem?_append, List.length_take]
            rcases hj with hj | hj
            · rw [if_pos (by simp; omega), List.getElem?_take, if_pos hj]; simp
            · rw [if_neg (by simp; omega), List.getElem?_append, if_neg (by simp; omega), List.getElem?_drop]
              simp only [Array.getElem?_toList]
              congr 1
              simp
              omega) h
        refine ⟨cs', ?_, k2, k3⟩
        simp only [Instr.fill, hpl]
        rw [if_neg (by simp [hsz, hc1]; omega)]
        exact k1
      · cases h
    · cases h
  | [], _ :: _, _, _, _, hl, _, _, _, _ => by simp at hl
  | _ :: _, [], _, _, _, hl, _, _, _, _ => by simp at hl

end
end Go.Proofs.YtekmhdiajjfgfaaDoor.TL
