/- Own words, part 9: operations with memory, calls; a region's operations one behind the other. No program is named here. -/
import Derived.Test.YtekmhdiajjfgfaaDoorTj
import Derived.Laws.Cover3
namespace Go.Proofs.YtekmhdiajjfgfaaDoor.TL
open Go
set_option linter.unusedVariables false
set_option linter.unusedSimpArgs false

/-- A call: whatever world fits the state, it returns, and a world that fits what K says is there. -/
def callT (P : Program) (f : Nat) (args : List TV) (s : TS) (K : TV → Heap → Prop) : Prop :=
  (∃ fn, P.funcs[f]? = some fn ∧ (fn.name == "runtime.NumGoroutine") = false ∧ fn.body.isNone = false) ∧
  ∀ (e : Ent) (E : Env) (w : World) (vs : List Value), SatH e E s.h w → vs.length = args.length → RVl E args (fun i => vs[i]?) 0 →
    Calls P f vs.toArray w fun en w' => ∃ v r h' E', en = .returned v ∧ K r h' ∧ E.Le E' ∧ SatH e E' h' w' ∧ RV E' r v

def funT (P : Program) (args : List TV) (s : TS) (f : TV) (K : TV → Heap → Prop) : Prop :=
  match f with
  | .v (.func (.func g) a b) => a.size = 0 ∧ b.size = 0 ∧ callT P g args s K
  | .fn (.func g) caps => callT P g (args ++ caps) s K
  | _ => False

def isSlice (P : Program) (t : Nat) : Bool := match P.underlying t with | some (.slice _) => true | _ => false
def nilT (P : Program) (t : Nat) (neq : Bool) (s : TS) (x y : TV) (K : TV → Heap → Prop) : Prop :=
  match x, y with
  | .sl _ _ _ n, .v (.slice none 0 0) => isSlice P t = true ∧ ∀ β : Bool, (β = true → n = 0) → K (.v (.bool (if neq then !β else β))) s.h
  | _, _ => False

/-- A row's elements are cleared (what they hold then is not said). -/
def clearT (P : Program) (t : Nat) (s : TS) (x : TV) (K : TV → Heap → Prop) : Prop :=
  match x, elemOf P t, P.underlying t with
  | .sl b ver o n, some k, some (.slice ee) => match getH s.h b, zeroOf P ee with
    | some (ver', B), some zs => (ver = ver' ∧ zs.all Value.oneCell' = true ∧ o + n * k ≤ B.cells.length) ∧ K (.tup []) (setH s.h b (ver', ⟨B.k, over B.cells o (List.replicate (n * k) .any)⟩))
    | _, _ => False
  | _, _, _ => False

def effT (P : Program) (d : Nat) (op : Op) (s : TS) (K : TV → Heap → Prop) : Prop :=
  match op with
  | .alloc t => allocT P d t s K
  | .box _ x => boxT d s (s.ev x) K
  | .buildSlice t n ps => buildSliceT P d t n (ps.toList.map fun p => (p.1, s.ev p.2)) s K
  | .store t a x => storeT P t s (s.ev a) (s.ev x) fun s' => K .any s'.h
  | .call { callee := .builtin .append, args, argTypes } => match args.toList, argTypes.toList with
    | [x, y], [ta, tx] => appT P d ta tx s (s.ev x) (s.ev y) K
    | _, _ => False
  | .call { callee := .builtin .clear, args, argTypes } => match args.toList, argTypes.toList with
    | [x], [t] => clearT P t s (s.ev x) K
    | _, _ => False
  | .call { callee := .value f, args, .. } => funT P (args.toList.map s.ev) s (s.ev f) K
  | .binOp .eql t x y _ => nilT P t false s (s.ev x) (s.ev y) K
  | .binOp .neq t x y _ => nilT P t true s (s.ev x) (s.ev y) K
  | _ => False

theorem setH_same {h : Heap} {n : Nat} {y : Nat × Blk} (hy : getH h n = some y) : setH h n y = h := by
  induction h with
  | nil => cases hy
  | cons p l ih =>
    obtain ⟨k, x⟩ := p
    simp only [getH] at hy
    simp only [setH]
    by_cases hn : n = k
    · rw [if_pos hn] at hy ⊢
      cases hy
      rw [hn]
    · rw [if_neg hn] at hy ⊢
      rw [ih hy]

/-- A state with another heap, a slot filled. -/
def TS.to (s : TS) (dst : Option Nat) (r : TV) (h : Heap) : TS :=
  { t := match dst with | some d => (d, r) :: s.t | none => s.t, h := h }

/-- When an operation under a guard is done: all of these hold. -/
def guardOf (want : Bool) : TV → Option (List Bool)
  | .v (.bool b) => some [if want then b else !b]
  | .opt g x => match guardOf want x with | some l => some (g :: l) | none => if g = true then none else some [false]
  | _ => none
def allB : List Bool → Bool
  | [] => true
  | g :: l => g && allB l
def impL : List Bool → Prop → Prop
  | [], C => C
  | g :: l, C => g = true → impL l C
def optL : List Bool → TV → TV
  | [], x => x
  | g :: l, x => .opt g (optL l x)
def stripL : List Bool → TV → TV
  | [], x => x
  | g :: l, x => stripL l (strip g x)

def stripS (gs : List Bool) (s : TS) : TS := { t := s.t.map fun p => (p.1, stripL gs p.2), h := s.h }

/-- Two ways, by what a guard says. -/
def guardE (b : Bool) (A B : Prop) : Prop := match b with | true => A | false => B
theorem guardE_true {A B : Prop} : guardE true A B = A := rfl
theorem guardE_false {A B : Prop} : guardE false A B = B := rfl
theorem guardE_fork {b : Bool} {A B : Prop} (h1 : b = true → A) (h2 : b = false → B) : guardE b A B := by cases b; exact h2 rfl; exact h1 rfl

def stepT (P : Program) (ops : Array Oper) (o : Oper) (s : TS) (K : TS → Prop) : Prop :=
  match o.guard with
  | none => match qop P s s.ev o.op with
    | some p => p.1 ∧ K (s.to o.dst p.2 s.h)
    | none => effT P (o.dst.getD 0) o.op s fun r h => K (s.to o.dst r h)
  | some (j, want) => match (((ops[j]?).bind (·.dst)).map (getT s.t)).bind (guardOf want) with
    | some gs => match qop P s (fun x => stripL gs (s.ev x)) o.op with
      | some p => impL gs p.1 ∧ K (s.to o.dst (optL gs p.2) s.h)
      | none => guardE (allB gs) (effT P (o.dst.getD 0) o.op (stripS gs s) fun r h => K (s.to o.dst r h)) (K (s.to o.dst (optL gs .any) s.h))
    | none => False

def opsT (P : Program) (ops : Array Oper) : List Oper → TS → (TS → Prop) → Prop
  | [], s, K => K s
  | o :: l, s, K => stepT P ops o s fun s' => opsT P ops l s' K

section
variable {P : Program} {e : Ent} {E : Env} {s : TS} {w : World}

theorem run_call {ρ : Operand → Value} {o : Oper} {f : Operand} {args : Array Operand} {ts : Array Nat} {g : Nat} {first caps : Array Value} (ho : o.op = .call { callee := .value f, args := args, argTypes := ts }) (hf : ρ f = .func (.func g) first caps)
    (hfn : ∃ fn, P.funcs[g]? = some fn ∧ (fn.name == "runtime.NumGoroutine") = false ∧ fn.body.isNone = false) : (execOp ρ o).run P w = .ok (.enter g ((first ++ args.map ρ) ++ caps)) w := by
  obtain ⟨fn, h1, h2, h3⟩ := hfn
  simp [execOp, ho, resolve, hf, Deferred.ofValue, invoke, callFunc, h1]
  simp at h2
  rw [if_neg h2]
  have h4 : ¬ fn.body = none := by intro hh; rw [hh] at h3; cases h3
  rw [if_neg h4]

theorem callT_wp {f : Nat} {args : List TV} {vs : List Value} {o : Oper} {a : Act} {K : TV → Heap → Prop} {next : Act → World → Prop} {Q : Exit → Act → World → Prop} (H : SatH e E s.h w) (hl : vs.length = args.length) (hv : RVl E args (fun i => vs[i]?) 0)
    (hrun : (execOp a.eval o).run P w = .ok (.enter f vs.toArray) w) (hc : callT P f args s K)
    (hn : ∀ r v h' E' w', K r h' → E.Le E' → SatH e E' h' w' → RV E' r v → next (a.put o.dst v) w') : o.wp P a w next Q := by
  unfold Oper.wp
  rw [hrun, Oper.upon_enter]
  refine (hc.2 e E w vs H hl hv).mono fun en w' hh => ?_
  obtain ⟨v, r, h', E', rfl, h1, h2, h3, h4⟩ := hh
  exact hn r v h' E' w' h1 h2 h3 h4

theorem RVl_map {ev : Operand → TV} {ρ : Operand → Value} (hev : ∀ x, RV E (ev x) (ρ x)) (l : List Operand) : RVl E (l.map ev) (fun i => (l.map ρ)[i]?) 0 := RVl.of fun j x hx => by
  rw [List.getElem?_map] at hx
  obtain ⟨y, hy, rfl⟩ := Option.map_eq_some_iff.1 hx
  exact ⟨ρ y, by simp [hy], hev y⟩

theorem RVl_any (f : Nat → Option Value) (vs : List Value) (h : ∀ j : Nat, j < vs.length → ∃ v, f j = some v) : ∀ (n : Nat), n = vs.length → RVl E (List.replicate n .any) f 0 := fun n hn => RVl.of fun j x hx => by
  have hj := (List.getElem?_eq_some_iff.1 hx).1
  rw [List.getElem?_eq_getElem hj] at hx
  simp at hx hj
  subst hx
  obtain ⟨v, hv⟩ := h j (by omega)
  exact ⟨v, by rw [Nat.zero_add]; exact hv, by simp only [RV]⟩

theorem clearT_sound {t ty : Nat} {x : TV} {u : Value} {K : TV → Heap → Prop} (H : SatH e E s.h w) (hx : RV E x u) (h : clearT P t s x K) : Goes e E K w ((Builtin.clear_ #[t] ty #[u]).run P w) := by
  unfold clearT at h
  split at h
  · rename_i b ver o n k ee hk hu
    split at h
    · rename_i ver' B zs hb hz
      obtain ⟨⟨rfl, hz1, hfit⟩, hK⟩ := h
      obtain ⟨ee', i, z, h1, h2, h3, h4, h5, h6, h7⟩ := elemOf_all hk
      rw [hu] at h1
      cases h1
      have hzz : zs = z.cells.toList := by
        unfold zeroOf at hz
        simp [h4, h6] at hz
        exact hz.symm
      obtain ⟨R, hR, hB⟩ := H.live b ver B hb
      simp only [RV] at hx
      obtain ⟨a, cap, rfl, g1, g2, g3, g4⟩ := hx
      by_cases hn : n = 0
      · subst hn
        have e1 : over B.cells o (List.replicate (0 * k) .any) = B.cells := by simp [over]
        rw [e1, setH_same hb] at hK
        refine ⟨_, _, .tuple #[], w, E, hK, Env.Le.refl E, H, by simp only [RV]; exact ⟨[], rfl, rfl, by simp only [RVl]⟩, ?_⟩
        cases a <;> simp [Builtin.clear_, run_underlying hu]
      · rcases g4 R hR with ⟨_, h9, _⟩ | ⟨q, a', rfl, rfl, h10, h11⟩
        · exact absurd h9 hn
        · obtain rfl := h10.resolve_left (by omega)
          rcases hB with ⟨k0, _, _⟩ | ⟨q', k1, k2, k3, k4, k5⟩
          · cases k0
          cases k1
          have hzl : (Builtin.zeroCells z.cells n).toList.length = n * k := by simp [Builtin.zeroCells, h7]
          have hone : ∀ v ∈ (Builtin.zeroCells z.cells n).toList, v.oneCell' = true := fun v hv => by
            simp only [Builtin.zeroCells, Array.toList_map, List.mem_map] at hv
            obtain ⟨j, hj, rfl⟩ := hv
            have hpos : 0 < z.cells.size := by rw [h7]; exact h3
            have hlt := Nat.mod_lt j hpos
            rw [getElem!_pos z.cells (j % z.cells.size) hlt]
            rw [hzz] at hz1
            exact List.all_eq_true.1 hz1 _ (by simp)
          have hst := run_storeCells_cells (P := P) q.r (q.base + o) (Builtin.zeroCells z.cells n).toList 0 w (fun j hj => (k4 _ (by rw [hzl] at hj; omega)).1) (fun j hj => (k4 _ (by rw [hzl] at hj; omega)).2) hone
          simp only [Nat.add_zero] at hst
          refine ⟨_, _, .tuple #[], _, E, hK, Env.Le.refl E, H.store (new := List.replicate (n * k) .any) hb hR (by simpa using hfit) (by simp [hzl]) (RVl_any _ (Builtin.zeroCells z.cells n).toList (fun j hj => ⟨_, List.getElem?_eq_getElem hj⟩) _ hzl.symm), by simp only [RV]; exact ⟨[], rfl, rfl, by simp only [RVl]⟩, ?_⟩
          obtain ⟨m, rfl⟩ : ∃ m, n = m + 1 := ⟨n - 1, by omega⟩
          simp [Builtin.clear_, run_underlying hu, zeroValue, typeInfo, h4, h6, hst]
    · exact h.elim
  · exact h.elim

theorem effT_wp {o : Oper} {a : Act} {K : TV → Heap → Prop} {next : Act → World → Prop} {Q : Exit → Act → World → Prop} (H : SatH e E s.h w) (hev : ∀ x, RV E (s.ev x) (a.eval x))
    (hc : effT P (o.dst.getD 0) o.op s K) (hn : ∀ r v h' E' w', K r h' → E.Le E' → SatH e E' h' w' → RV E' r v → next (a.put o.dst v) w') : o.wp P a w next Q := by
  have val : ∀ R : Result Value, Goes e E K w R → (execOp a.eval o).run P w = R.andThen (fun v w' => .ok (.value v) w') → o.wp P a w next Q := fun R hR hrun => by
    obtain ⟨r, h', v, w', E', k1, k2, k3, k4, rfl⟩ := hR
    unfold Oper.wp
    rw [hrun, Result.andThen_ok, Oper.upon_value]
    exact hn r v h' E' w' k1 k2 k3 k4
  unfold effT at hc
  split at hc
  · rename_i t ho
    exact val _ (allocT_sound H hc) (by simp [execOp, ho])
  · rename_i t x ho
    exact val _ (boxT_sound (P := P) (t := t) H (hev x) hc) (by simp [execOp, ho])
  · rename_i t n ps ho
    obtain ⟨m1, m2⟩ := map_parts hev ps
    exact val _ (buildSliceT_sound H m1 m2 hc) (by simp [execOp, ho])
  · rename_i t x y ho
    obtain ⟨h', w', k1, k2, k3⟩ := storeT_sound H (hev x) (hev y) hc
    have hrun : (execOp a.eval o).run P w = .ok .skip w' := by simp [execOp, ho, k3]
    unfold Oper.wp
    rw [hrun, Oper.upon_skip]
    exact hn _ _ _ E w' k1 (Env.Le.refl E) k2 (by simp only [RV])
  · rename_i args ts ho
    split at hc
    · rename_i x y ta tx h1 h2
      have ha : args = #[x, y] := by apply Array.ext'; simpa using h1
      have ht : ts = #[ta, tx] := by apply Array.ext'; simpa using h2
      subst ha ht
      exact val _ (appT_sound (ty := o.type) H (hev x) (hev y) hc) (by simp [execOp, ho, resolve, invoke, builtin])
    · exact hc.elim
  · rename_i args ts ho
    split at hc
    · rename_i x t h1 h2
      have ha : args = #[x] := by apply Array.ext'; simpa using h1
      have ht : ts = #[t] := by apply Array.ext'; simpa using h2
      subst ha ht
      exact val _ (clearT_sound (ty := o.type) H (hev x) hc) (by simp [execOp, ho, resolve, invoke, builtin])
    · exact hc.elim
  · rename_i f args ts ho
    unfold funT at hc
    have hf := hev f
    split at hc
    · rename_i g fi ca hfe
      rw [hfe] at hf
      simp only [RV] at hf
      obtain ⟨h1, h2, hc⟩ := hc
      obtain rfl : fi = #[] := by simpa using h1
      obtain rfl : ca = #[] := by simpa using h2
      refine callT_wp (vs := args.toList.map a.eval) H (by simp) (RVl_map hev args.toList) ?_ hc hn
      rw [run_call ho hf hc.1]
      congr 2
      apply Array.ext'; simp
    · rename_i g caps hfe
      rw [hfe] at hf
      simp only [RV] at hf
      obtain ⟨zs, hz, z1, z2⟩ := hf
      refine callT_wp (vs := args.toList.map a.eval ++ zs) H (by simp [z1]) (RVl.append ?_ ?_) ?_ hc hn
      · refine RVl.mono (Env.Le.refl E) _ _ _ _ (fun j v hj => ?_) (RVl_map hev args.toList)
        rw [List.getElem?_append_left (List.getElem?_eq_some_iff.1 hj).1]; exact hj
      · refine RVl.of fun j x hx => ?_
        obtain ⟨v, k1, k2⟩ := z2.get j x hx
        refine ⟨v, ?_, k2⟩
        rw [List.getElem?_append_right (by simp), ← k1]
        congr 1
        simp
      · rw [run_call ho hz hc.1]
        congr 2
        apply Array.ext'; simp
    · exact hc.elim
  · rename_i t x y t' ho
    unfold nilT at hc
    split at hc
    · rename_i b ver o' n hx hy
      obtain ⟨h1, h2⟩ := hc
      have hxv := hev x
      have hyv := hev y
      rw [hx] at hxv
      rw [hy] at hyv
      simp only [RV] at hxv hyv
      obtain ⟨a', cap, e1, e2, e3, _⟩ := hxv
      unfold isSlice at h1
      split at h1
      · rename_i ee he
        have hrun := run_equal_slice_nil (P := P) w t ee a' n cap he
        refine val (.ok (.bool a'.isNone) w) ⟨_, s.h, _, w, E, h2 a'.isNone (fun hn => ?_), Env.Le.refl E, H, ?_, rfl⟩ ?_
        · have := e3 (by simpa using hn); omega
        · simp [RV]
        · simp [execOp, ho, e1, hyv, eqGuard, binOp, hrun]
      · cases h1
    · exact hc.elim
  · rename_i t x y t' ho
    unfold nilT at hc
    split at hc
    · rename_i b ver o' n hx hy
      obtain ⟨h1, h2⟩ := hc
      have hxv := hev x
      have hyv := hev y
      rw [hx] at hxv
      rw [hy] at hyv
      simp only [RV] at hxv hyv
      obtain ⟨a', cap, e1, e2, e3, _⟩ := hxv
      unfold isSlice at h1
      split at h1
      · rename_i ee he
        have hrun := run_equal_slice_nil (P := P) w t ee a' n cap he
        refine val (.ok (.bool (!a'.isNone)) w) ⟨_, s.h, _, w, E, h2 a'.isNone (fun hn => ?_), Env.Le.refl E, H, ?_, rfl⟩ ?_
        · have := e3 (by simpa using hn); omega
        · simp [RV]
        · simp [execOp, ho, e1, hyv, eqGuard, binOp, hrun]
      · cases h1
    · exact hc.elim
  · exact hc.elim

theorem impL_of {gs : List Bool} {C : Prop} (h : impL gs C) (hg : allB gs = true) : C := by
  induction gs with
  | nil => exact h
  | cons g l ih =>
    simp only [allB, Bool.and_eq_true] at hg
    exact ih (h hg.1) hg.2
theorem RV_optL {E : Env} : ∀ {gs : List Bool} {x : TV} {y : Value}, (allB gs = true → RV E x y) → (allB gs = false → y = undef) → RV E (optL gs x) y
  | [], x, y, h, _ => h rfl
  | g :: l, x, y, h, k => by
    simp only [optL, RV]
    exact ⟨fun hg => RV_optL (fun hl => h (by simp [allB, hg, hl])) (fun hl => k (by simp [allB, hl])), fun hg => k (by simp [allB, hg])⟩
theorem RV_stripL {E : Env} : ∀ {gs : List Bool} {x : TV} {y : Value}, RV E x y → allB gs = true → RV E (stripL gs x) y
  | [], x, y, h, _ => h
  | g :: l, x, y, h, hg => by
    simp only [allB, Bool.and_eq_true] at hg
    simp only [stripL]
    exact RV_stripL (strip_sound h hg.1) hg.2
theorem stripL_any : ∀ gs : List Bool, stripL gs .any = .any
  | [] => rfl
  | g :: l => stripL_any l
theorem getT_strip (gs : List Bool) (n : Nat) : ∀ t : List (Nat × TV), getT (t.map fun p => (p.1, stripL gs p.2)) n = stripL gs (getT t n)
  | [] => (stripL_any gs).symm
  | (k, x) :: t => by
    simp only [List.map_cons, getT]
    split
    · rfl
    · exact getT_strip gs n t
theorem ev_stripS {E : Env} {s : TS} {a : Act} {gs : List Bool} (hG : ∀ g l, gvals g = some l → ∀ o v, l[o]? = some v → E.I g o = some v) (hT : SatT E s.t a.tmps) (hg : allB gs = true) (x : Operand) : RV E ((stripS gs s).ev x) (a.eval x) := by
  refine ev_sound (s := stripS gs s) hG (fun n => ?_) x
  simp only [stripS, getT_strip]
  exact RV_stripL (hT n) hg
/-- What the guard's value says of the world. -/
theorem guard_wanted {E : Env} {want : Bool} : ∀ {x : TV} {v : Value} {gs : List Bool}, guardOf want x = some gs → RV E x v → (allB gs = true ↔ v = .bool want)
  | .v (.bool b), v, gs, h, hv => by
    simp only [guardOf, Option.some.injEq] at h
    subst h
    simp only [RV] at hv
    subst hv
    cases b <;> cases want <;> simp [allB]
  | .opt g x, v, gs, h, hv => by
    simp only [guardOf] at h
    simp only [RV] at hv
    split at h
    · rename_i l hl
      cases h
      cases g with
      | true =>
        have := guard_wanted hl (hv.1 rfl)
        simpa [allB] using this
      | false =>
        rw [hv.2 rfl]
        simp [allB, undef]
    · split at h
      · cases h
      · rename_i hg
        cases h
        rw [hv.2 (by simpa using hg)]
        simp [allB, undef]

theorem put_sat {E E' : Env} {a : Act} {nt : Nat} {dst : Option Nat} {r : TV} {v : Value} {h' : Heap} (hT : SatT E s.t a.tmps) (hE : E.Le E') (hnt : a.tmps.size = nt) (hd : ∀ d, dst = some d → d < nt) (hr : RV E' r v) :
    SatT E' (s.to dst r h').t (a.put dst v).tmps ∧ (a.put dst v).tmps.size = nt ∧ (a.put dst v).defers = a.defers := by
  cases dst with
  | none => exact ⟨hT.mono hE, hnt, rfl⟩
  | some d => exact ⟨(hT.mono hE).put (by rw [hnt]; exact hd d rfl) hr, by simp [Act.put, hnt], rfl⟩

/-- What is there behind a region. -/
def Behind (e : Ent) (E : Env) (nt : Nat) (df : List Deferred) (K : TS → Prop) (ex : Exit) (a' : Act) (w' : World) : Prop :=
  ex = .normal ∧ ∃ s' E', K s' ∧ E.Le E' ∧ SatH e E' s'.h w' ∧ SatT E' s'.t a'.tmps ∧ a'.tmps.size = nt ∧ a'.defers = df

theorem opsT_sound {ops : Array Oper} {nt : Nat} {K : TS → Prop} {df : List Deferred} {E0 : Env} (hdst : ∀ (i : Nat) (o : Oper) (d : Nat), ops[i]? = some o → o.dst = some d → d < nt) :
    ∀ (l : List Nat) (s : TS) (E : Env) (a : Act) (w : World), opsT P ops (l.filterMap fun i => ops[i]?) s K → E0.Le E → SatH e E s.h w → SatT E s.t a.tmps → a.tmps.size = nt → a.defers = df →
      wpOps P ops (Behind e E0 nt df K) l a w
  | [], s, E, a, w, h, h0, H, hT, hn, hd => ⟨rfl, s, E, h, h0, H, hT, hn, hd⟩
  | i :: l, s, E, a, w, h, h0, H, hT, hn, hd => by
    simp only [wpOps]
    cases hi : ops[i]? with
    | none =>
      simp only
      have h' : opsT P ops (l.filterMap fun i => ops[i]?) s K := by simpa [List.filterMap_cons, hi] using h
      exact opsT_sound hdst l s E a w h' h0 H hT hn hd
    | some o =>
      simp only
      have h' : stepT P ops o s fun s' => opsT P ops (l.filterMap fun i => ops[i]?) s' K := by simpa [List.filterMap_cons, hi, opsT] using h
      have hdo : ∀ d, o.dst = some d → d < nt := fun d hd => hdst i o d hi hd
      have next : ∀ r v h' E' w', opsT P ops (l.filterMap fun i => ops[i]?) (s.to o.dst r h') K → E.Le E' → SatH e E' h' w' → RV E' r v → wpOps P ops (Behind e E0 nt df K) l (a.put o.dst v) w' := fun r v h' E' w' k1 k2 k3 k4 => by
        obtain ⟨m1, m2, m3⟩ := put_sat (h' := h') hT k2 hn hdo k4
        exact opsT_sound hdst l _ E' _ _ k1 (h0.trans k2) k3 m1 m2 (m3.trans hd)
      unfold stepT at h'
      split at h'
      · rename_i hg
        have hw : Region.wanted o (yielded ops a.tmps) = true := by simp [Region.wanted, hg]
        rw [if_pos hw]
        refine .inl ?_
        split at h'
        · rename_i p hq
          obtain ⟨v, k1, k2⟩ := qop_sound H (ev_sound H.glo hT) hq h'.1
          unfold Oper.wp
          rw [k2, Oper.upon_value]
          exact next _ _ _ E w h'.2 (Env.Le.refl E) H k1
        · exact effT_wp H (ev_sound H.glo hT) h' next
      · rename_i j want hg
        split at h'
        · rename_i gs hb
          obtain ⟨x, hx, hgs⟩ := Option.bind_eq_some_iff.1 hb
          obtain ⟨d, hd1, hd2⟩ := Option.map_eq_some_iff.1 hx
          have hbv := hT d
          rw [hd2] at hbv
          have hiff := guard_wanted hgs hbv
          have hw : Region.wanted o (yielded ops a.tmps) = allB gs := by
            have h1 : Region.wanted o (yielded ops a.tmps) = true ↔ a.tmps.getD d undef = .bool want := by
              rw [Array.getD_eq_getD_getElem?]
              simp only [Region.wanted, hg, yielded, hd1, Option.bind_some]
              cases hh : a.tmps[d]? with
              | none => simp [undef]
              | some v => cases v <;> simp
            rw [← hiff] at h1
            cases hA : allB gs <;> cases hB : Region.wanted o (yielded ops a.tmps) <;> simp_all
          rw [hw]
          cases ht : allB gs with
          | true =>
            rw [if_pos rfl]
            refine .inl ?_
            split at h'
            · rename_i p hq
              obtain ⟨v, k1, k2⟩ := qop_sound (ρ := a.eval) H (fun x => RV_stripL (ev_sound H.glo hT x) ht) hq (impL_of h'.1 ht)
              unfold Oper.wp
              rw [k2, Oper.upon_value]
              exact next _ _ _ E w h'.2 (Env.Le.refl E) H (RV_optL (fun _ => k1) fun hf => by rw [ht] at hf; cases hf)
            · rw [ht, guardE_true] at h'
              exact effT_wp (s := stripS gs s) H (ev_stripS H.glo hT ht) h' next
          | false =>
            rw [if_neg (by simp)]
            split at h'
            · exact next _ _ _ E w h'.2 (Env.Le.refl E) H (RV_optL (fun hf => by rw [ht] at hf; cases hf) fun _ => rfl)
            · rw [ht, guardE_false] at h'
              exact next _ _ _ E w h' (Env.Le.refl E) H (RV_optL (fun hf => by rw [ht] at hf; cases hf) fun _ => rfl)
        · exact h'.elim
end
end Go.Proofs.YtekmhdiajjfgfaaDoor.TL
