/- Own words, part 8: one operation, a region's operations in their order. No program is named here. -/
import Derived.Test.YtekmhdiajjfgfaaDoorTi
import Derived.Laws.StructEq
import Derived.ChangeKeysEq
namespace Go.Proofs.YtekmhdiajjfgfaaDoor.TL
open Go
set_option linter.unusedVariables false
set_option linter.unusedSimpArgs false

def strip (g : Bool) (x : TV) : TV :=
  match x with
  | .opt g' y => if g' = g then y else .opt g' y
  | x => x
def TS.evg (s : TS) (g : Bool) (x : Operand) : TV := strip g (s.ev x)

theorem strip_sound {E : Env} {g : Bool} {x : TV} {y : Value} (hx : RV E x y) (hg : g = true) : RV E (strip g x) y := by
  unfold strip
  split
  · split
    · rename_i h; subst h; simp only [RV] at hx; exact hx.1 hg
    · exact hx
  · exact hx

def iteTV (t : Bool) (a b : TV) : TV := if t then a else b
theorem iteTV_true {a b : TV} : iteTV true a b = a := rfl
theorem iteTV_false {a b : TV} : iteTV false a b = b := rfl
theorem iteTV_bool {t x y : Bool} : iteTV t (.v (.bool x)) (.v (.bool y)) = .v (.bool (if t then x else y)) := by cases t <;> rfl
def qpick (c a b : TV) : PT :=
  match c with
  | .v (.bool t) => (True, iteTV t (strip t a) (strip (!t) b))
  | _ => no

def qnil (x : TV) : PT :=
  match x with
  | .at b ver o => (True, .at b ver o)
  | .iat c => (True, .iat c)
  | .fn (.func f) caps => (True, .fn (.func f) caps)
  | .v (.func (.func f) a b) => (True, .v (.func (.func f) a b))
  | _ => no

/-- Numbers (0), texts (1), truth values (2). -/
def scal (P : Program) (t : Nat) : Option Nat := match P.underlying t with | some (.int _) => some 0 | some .string => some 1 | some .bool => some 2 | _ => none
/-- A struct or an array of such alone: where they lie, of which kind. -/
def eqOfF (P : Program) : Nat → Nat → Option (List (Nat × Nat))
  | 0, _ => none
  | f + 1, t => match P.underlying t with
    | some (.int _) => some [(0, 0)]
    | some .string => some [(0, 1)]
    | some .bool => some [(0, 2)]
    | some (.struct fs) => if P.stoodInHeld t = false then (fs.toList.mapM fun x => if x.name ≠ "_" ∧ 0 < szOf P x.type then (eqOfF P f x.type).bind fun l => if l.all (fun p => decide (p.1 < szOf P x.type)) = true then some (l.map fun p => (x.offset + p.1, p.2)) else none else none).map List.flatten else none
    | some (.array n e) => if 0 < szOf P e then (eqOfF P f e).bind fun l => if l.all (fun p => decide (p.1 < szOf P e)) = true then some (((List.range n).map fun i => l.map fun p => (i * szOf P e + p.1, p.2)).flatten) else none else none
    | _ => none
def eqOf (P : Program) (t : Nat) : Option (List (Nat × Nat)) := if Program.eqGuardType P P.depth t = false ∧ isAg P t = true then eqOfF P 20 t else none
def eqS (k : Nat) (x y : TV) : Option Bool :=
  match k, x, y with
  | 0, .v (.int k a), .v (.int k' b) => if k = k' then some (decide (a = b)) else none
  | 1, .v (.string a), .v (.string b) => some (decide (sl a = sl b))
  | 2, .v (.bool a), .v (.bool b) => some (decide (a = b))
  | _, _, _ => none
def eqAt : List (Nat × Nat) → List TV → List TV → Option Bool
  | [], _, _ => some true
  | (o, k) :: l, xs, ys => match xs.drop o, ys.drop o with
    | x :: _, y :: _ => match eqS k x y, eqAt l xs ys with
      | some a, some b => some (a && b)
      | _, _ => none
    | _, _ => none
def isPtr (P : Program) (t : Nat) : Bool := match P.underlying t with | some (.pointer _) => true | _ => false

def qeq (P : Program) (t : Nat) (x y : TV) : Option (Prop × Bool) :=
  match x, y with
  | .v (.bool a), .v (.bool b) => some (scal P t = some 2, decide (a = b))
  | .agg xs, .agg ys => (eqOf P t).bind fun l => (eqAt l xs ys).map fun r => (True, r)
  | .at _ _ _, .v (.pointer none) | .iat _, .v (.pointer none) => some (isPtr P t = true, false)
  | .v (.pointer none), .v (.pointer none) => some (isPtr P t = true, true)
  | _, _ => none

def qbinT (P : Program) (op : BinOp) (t : Nat) (x y : TV) : PT :=
  match op, qeq P t x y with
  | .eql, some (c, r) => (c, .v (.bool r))
  | .neq, some (c, r) => (c, .v (.bool (!r)))
  | op, _ => qbin op x y

/-- A slice held against nil: whether it has memory isn't known. -/
def slNil (x y : TV) : Bool := match x, y with | .sl _ _ _ _, .v (.slice none 0 0) => true | _, _ => false

def qop (P : Program) (s : TS) (ev : Operand → TV) (op : Op) : Option PT :=
  match op with
  | .move x | .assign x => some (True, ev x)
  | .pick c a b => some (qpick (ev c) (ev a) (ev b))
  | .build t ps => some (qbuild P t (ps.toList.map fun p => (p.1, ev p.2)))
  | .load t a => some (qload P s t (ev a))
  | .nilCheck x => some (qnil (ev x))
  | .binOp op t x y _ => if slNil (ev x) (ev y) = true then none else some (qbinT P op t (ev x) (ev y))
  | .unOp op _ x => some (qun op (ev x))
  | .convert a b x => some (qconv P s a b (ev x))
  | .slice t x lo hi none => some (qslice P s t (ev x) (lo.map ev) (hi.map ev))
  | .slice t x (some lo) (some hi) (some m) => some (qslice3 P t (ev x) (ev lo) (ev hi) (ev m))
  | .fieldAddr t x f => some (qfieldAddr P t f (ev x))
  | .field t x f => some (qfield P t f (ev x))
  | .indexAddr t x i => some (qidx P t (ev x) (ev i))
  | .index t x i => some (qindex P t (ev x) (ev i))
  | .extract x i => some (qextract (ev x) i)
  | .makeInterface t x => some (P.concrete t = true, .ifc t (ev x))
  | .call { callee := .builtin b, args, argTypes } => match b, args.toList, argTypes.toList with
    | .len, [x], t :: _ => some (qlen P t (ev x))
    | .max, [x, y], _ => some (qmm true (ev x) (ev y))
    | .min, [x, y], _ => some (qmm false (ev x) (ev y))
    | _, _, _ => none
  | _ => none

section
variable {P : Program} {e : Ent} {E : Env} {s : TS} {w : World}

theorem qpick_sound {c a b : TV} {cv av bv : Value} (hc : RV E c cv) (ha : RV E a av) (hb : RV E b bv) (h : (qpick c a b).1) :
    ∃ t, cv = .bool t ∧ RV E (qpick c a b).2 (if t then av else bv) := by
  unfold qpick at h ⊢
  split at h
  · rename_i t
    simp only [RV] at hc
    subst hc
    refine ⟨t, rfl, ?_⟩
    cases t
    · exact strip_sound (g := true) hb rfl
    · exact strip_sound (g := true) ha rfl
  · simp [no] at h

theorem qnil_sound {x : TV} {u : Value} {o : Oper} {ρ : Operand → Value} {ox : Operand} (hx : RV E x u) (ho : o.op = .nilCheck ox) (hu : ρ ox = u) (h : (qnil x).1) : ∃ v, RV E (qnil x).2 v ∧ (execOp ρ o).run P w = .ok (.value v) w := by
  unfold qnil at h ⊢
  split at h
  · refine ⟨u, hx, ?_⟩
    simp only [RV] at hx
    obtain ⟨p, rfl, _⟩ := hx
    simp [execOp, ho, hu]
  · refine ⟨u, hx, ?_⟩
    simp only [RV] at hx
    obtain ⟨p, rfl, _⟩ := hx
    simp [execOp, ho, hu]
  · refine ⟨u, hx, ?_⟩
    simp only [RV] at hx
    obtain ⟨zs, rfl, _⟩ := hx
    simp [execOp, ho, hu]
  · refine ⟨u, hx, ?_⟩
    simp only [RV] at hx
    subst hx
    simp [execOp, ho, hu]
  · simp [no] at h

theorem eqS_sound {d k : Nat} {t : TypeId} {x y : TV} {u v : Value} {r : Bool} (hk : scal P t = some k) (hx : RV E x u) (hy : RV E y v) (h : eqS k x y = some r) : (Op.equalIn (d + 1) t u v).run P w = .ok r w := by
  unfold eqS at h
  unfold scal at hk
  split at h
  · split at h
    · rename_i a k' b hkk
      cases h
      simp only [RV] at hx hy
      subst hx hy hkk
      split at hk
      · rename_i q hq; rw [run_equalIn_int w d t _ _ a b hq, beq_dec]
      · cases hk
      · cases hk
      · cases hk
    · cases h
  · rename_i a b
    cases h
    simp only [RV] at hx hy
    subst hx hy
    split at hk
    · cases hk
    · rename_i hq
      rw [run_equalIn_string w d t a b hq, toList_eq_sl, toList_eq_sl]
      congr 1
      by_cases hh : sl a = sl b <;> simp [hh]
    · cases hk
    · cases hk
  · rename_i a b
    cases h
    simp only [RV] at hx hy
    subst hx hy
    split at hk
    · cases hk
    · cases hk
    · rename_i hq; rw [run_equalIn_bool' w d t a b hq, beq_dec]
    · cases hk
  · cases h

/-- The same over values. -/
def eqC : List (Nat × Nat) → List Value → List Value → Option Bool
  | [], _, _ => some true
  | (o, k) :: l, us, vs => match us[o]?, vs[o]? with
    | some u, some v => match eqS k (.v u) (.v v), eqC l us vs with
      | some a, some b => some (a && b)
      | _, _ => none
    | _, _ => none
theorem eqS_V {k : Nat} {x y : TV} {u v : Value} {r : Bool} (hx : RV E x u) (hy : RV E y v) (h : eqS k x y = some r) : eqS k (.v u) (.v v) = some r := by
  unfold eqS at h
  split at h
  · simp only [RV] at hx hy; subst hx hy; exact h
  · simp only [RV] at hx hy; subst hx hy; exact h
  · simp only [RV] at hx hy; subst hx hy; exact h
  · cases h
theorem eqAt_C {xs ys : List TV} {us vs : List Value} (hx : RVl E xs (fun i => us[i]?) 0) (hy : RVl E ys (fun i => vs[i]?) 0) : ∀ (l : List (Nat × Nat)) (r : Bool), eqAt l xs ys = some r → eqC l us vs = some r
  | [], r, h => h
  | (o, k) :: l, r, h => by
    simp only [eqAt] at h
    split at h
    · rename_i x xs' y ys' h1 h2
      split at h
      · rename_i a b h3 h4
        obtain ⟨u, u1, u2⟩ := hx.get _ x (getElem?_drop_cons h1)
        obtain ⟨v, v1, v2⟩ := hy.get _ y (getElem?_drop_cons h2)
        rw [Nat.zero_add] at u1 v1
        simp only [eqC, u1, v1, eqS_V u2 v2 h3, eqAt_C hx hy l b h4]
        exact h
      · cases h
    · cases h
theorem eqC_app : ∀ (l l' : List (Nat × Nat)) (us vs : List Value) (r : Bool), eqC (l ++ l') us vs = some r → ∃ a b, eqC l us vs = some a ∧ eqC l' us vs = some b ∧ r = (a && b)
  | [], l', us, vs, r, h => ⟨true, r, rfl, h, by simp⟩
  | (o, k) :: l, l', us, vs, r, h => by
    simp only [List.cons_append, eqC] at h ⊢
    split at h
    · rename_i u v h1 h2
      split at h
      · rename_i a b h3 h4
        obtain ⟨a', b', k1, k2, k3⟩ := eqC_app l l' us vs b h4
        cases h
        exact ⟨a && a', b', by simp only [h1, h2, h3, k1], k2, by rw [k3, Bool.and_assoc]⟩
      · cases h
    · cases h
theorem eqC_shift {n o : Nat} {us vs : List Value} : ∀ (l : List (Nat × Nat)) (r : Bool), l.all (fun p => decide (p.1 < n)) = true → eqC (l.map fun p => (o + p.1, p.2)) us vs = some r → eqC l ((us.drop o).take n) ((vs.drop o).take n) = some r
  | [], r, _, h => h
  | (q, k) :: l, r, hn, h => by
    simp only [List.all_cons, Bool.and_eq_true, decide_eq_true_eq] at hn
    simp only [List.map_cons, eqC] at h ⊢
    rw [List.getElem?_take, if_pos hn.1, List.getElem?_drop, List.getElem?_take, if_pos hn.1, List.getElem?_drop]
    split at h
    · rename_i u v h1 h2
      split at h
      · rename_i a b h3 h4
        simp only [h1, h2, h3, eqC_shift l b hn.2 h4]
        exact h
      · cases h
    · cases h
/-- Cells as a value of a type. -/
def asV (P : Program) (t : Nat) (us : List Value) : Value := if isAg P t then .agg us.toArray else us.headD undef

theorem eqOfF_hasU {f t : Nat} {l : List (Nat × Nat)} (h : eqOfF P f t = some l) : hasU P t = true := by
  cases f with
  | zero => cases h
  | succ f =>
    unfold hasU
    cases hh : P.underlying t with
    | none => simp [eqOfF, hh] at h
    | some q => rfl
theorem eqOfF_one {f t : Nat} {l : List (Nat × Nat)} (h : eqOfF P f t = some l) (ha : isAg P t = false) : ∃ k, l = [(0, k)] ∧ scal P t = some k := by
  cases f with
  | zero => cases h
  | succ f =>
    unfold isAg at ha
    simp only [eqOfF] at h
    unfold scal
    split at h
    · rename_i k hk; cases h; exact ⟨0, rfl, by rw [hk]⟩
    · rename_i hk; cases h; exact ⟨1, rfl, by rw [hk]⟩
    · rename_i hk; cases h; exact ⟨2, rfl, by rw [hk]⟩
    · rename_i fs hk; rw [hk] at ha; simp at ha
    · rename_i n e hk; rw [hk] at ha; simp at ha
    · cases h
theorem run_part {t o f : Nat} {l : List (Nat × Nat)} {us vs : List Value} {r : Bool} (h : eqOfF P f t = some l) (hsz : 0 < szOf P t) (he : eqC l ((us.drop o).take (szOf P t)) ((vs.drop o).take (szOf P t)) = some r) :
    (part t us.toArray o).run P w = .ok (asV P t ((us.drop o).take (szOf P t))) w ∧ (part t vs.toArray o).run P w = .ok (asV P t ((vs.drop o).take (szOf P t))) w := by
  have hu := eqOfF_hasU h
  cases ha : isAg P t with
  | true =>
    simp only [part, Sem.run_bind, run_isAg hu, Result.andThen_ok, ha, if_true, run_szOf hsz, Sem.run_pure, asV]
    refine ⟨?_, ?_⟩ <;> (congr 2; apply Array.ext'; simp [List.extract_eq_take_drop])
  | false =>
    obtain ⟨k, rfl, hk⟩ := eqOfF_one h ha
    simp only [eqC] at he
    rw [List.getElem?_take, if_pos hsz, List.getElem?_drop, List.getElem?_take, if_pos hsz, List.getElem?_drop, Nat.add_zero] at he
    split at he
    · rename_i u v h1 h2
      have e1 : ∀ (z : List Value) (q : Value), z[o]? = some q → ((z.drop o).take (szOf P t)).headD undef = q := fun z q hq => by
        have : ((z.drop o).take (szOf P t))[0]? = some q := by rw [List.getElem?_take, if_pos hsz, List.getElem?_drop]; simpa using hq
        cases hh : (z.drop o).take (szOf P t) with
        | nil => rw [hh] at this; simp at this
        | cons a b => rw [hh] at this; simpa using this
      simp only [part, Sem.run_bind, run_isAg hu, Result.andThen_ok, ha, Bool.false_eq_true, if_false, asV]
      rw [e1 us u h1, e1 vs v h2]
      simp [h1, h2]
    · cases he

theorem eqF_sound : ∀ (f t : Nat) (l : List (Nat × Nat)), eqOfF P f t = some l → ∀ (d : Nat) (us vs : List Value) (r : Bool), f ≤ d → eqC l us vs = some r → (Op.equalIn d t (asV P t us) (asV P t vs)).run P w = .ok r w
  | 0, _, _, h, _, _, _, _, _, _ => by cases h
  | f + 1, t, l, h, d, us, vs, r, hd, he => by
    obtain ⟨d, rfl⟩ : ∃ d', d = d' + 1 := ⟨d - 1, by omega⟩
    have h0 := h
    cases ha : isAg P t with
    | false =>
      obtain ⟨k, rfl, hk⟩ := eqOfF_one h ha
      simp only [eqC] at he
      split at he
      · rename_i u v h1 h2
        split at he
        · rename_i a b h3 h4
          cases h4
          cases he
          have e1 : ∀ (z : List Value) (q : Value), z[0]? = some q → z.headD undef = q := fun z q hq => by
            cases z with
            | nil => simp at hq
            | cons a b => simpa using hq
          simp only [asV, ha, Bool.false_eq_true, if_false]
          rw [e1 us u h1, e1 vs v h2, Bool.and_true]
          exact eqS_sound (E := ⟨fun _ _ => none, fun _ => none, 0⟩) hk (by simp only [RV]) (by simp only [RV]) h3
        · cases he
      · cases he
    | true =>
      simp only [asV, ha, if_true]
      simp only [eqOfF] at h
      split at h
      · rename_i k hk; unfold isAg at ha; rw [hk] at ha; simp at ha
      · rename_i hk; unfold isAg at ha; rw [hk] at ha; simp at ha
      · rename_i hk; unfold isAg at ha; rw [hk] at ha; simp at ha
      · rename_i fs hu
        split at h
        · rename_i hst
          obtain ⟨L, hL, rfl⟩ := Option.map_eq_some_iff.1 h
          have hf : P.fieldsOf t = fs := by simp [Program.fieldsOf, hu]
          rw [run_equalIn_struct w d t _ _ (by rw [hf]; exact hu) hst, hf]
          clear h h0
          have key : ∀ (fs : List Field) (L : List (List (Nat × Nat))) (r : Bool), (fs.mapM fun x => if x.name ≠ "_" ∧ 0 < szOf P x.type then (eqOfF P f x.type).bind fun l => if l.all (fun p => decide (p.1 < szOf P x.type)) = true then some (l.map fun p => (x.offset + p.1, p.2)) else none else none) = some L →
              eqC L.flatten us vs = some r → (Op.eqFields d us.toArray vs.toArray fs).run P w = .ok r w := by
            intro fs
            induction fs with
            | nil =>
              intro L r hL he
              simp at hL
              subst hL
              simp only [List.flatten_nil, eqC, Option.some.injEq] at he
              subst he
              simp [Op.eqFields]
            | cons x fs ih =>
              intro L r hL he
              simp only [List.mapM_cons, Option.bind_eq_bind, Option.pure_def] at hL
              obtain ⟨p, hp, hL⟩ := Option.bind_eq_some_iff.1 hL
              obtain ⟨L', hL', hL⟩ := Option.bind_eq_some_iff.1 hL
              cases hL
              split at hp
              · rename_i hc
                obtain ⟨l1, hl1, hp⟩ := Option.bind_eq_some_iff.1 hp
                split at hp
                · rename_i hall
                  cases hp
                  simp only [List.flatten_cons] at he
                  obtain ⟨a, b, k1, k2, rfl⟩ := eqC_app _ _ _ _ _ he
                  have k3 := eqC_shift l1 a hall k1
                  obtain ⟨p1, p2⟩ := run_part (P := P) (w := w) hl1 hc.2 k3
                  have p3 := eqF_sound f x.type l1 hl1 d _ _ a (by omega) k3
                  simp only [Op.eqFields]
                  rw [if_pos hc.1]
                  simp only [Sem.run_bind, p1, p2, p3, Result.andThen_ok, Sem.run_ite]
                  cases a with
                  | true => simpa using ih L' b hL' k2
                  | false => simp
                · cases hp
              · cases hp
          exact key fs.toList L r hL he
        · cases h
      · rename_i n e hu
        split at h
        · rename_i hsz
          obtain ⟨l1, hl1, h⟩ := Option.bind_eq_some_iff.1 h
          split at h
          · rename_i hall
            cases h
            obtain ⟨i, hi, his⟩ : ∃ i, P.info? e = some i ∧ i.size = szOf P e := by
              unfold szOf at hsz ⊢
              cases hi : P.info? e with
              | none => rw [hi] at hsz; simp at hsz
              | some i => exact ⟨i, rfl, by simp⟩
            have hc : P.cellsOf e = szOf P e := rfl
            rw [run_equalIn_array w d _ _ hu hi, hc]
            clear h0
            have key : ∀ (is : List Nat) (r : Bool), eqC ((is.map fun i => l1.map fun p => (i * szOf P e + p.1, p.2)).flatten) us vs = some r → (Op.eqItems d e (szOf P e) us.toArray vs.toArray is).run P w = .ok r w := by
              intro is
              induction is with
              | nil =>
                intro r he
                simp only [List.map_nil, List.flatten_nil, eqC, Option.some.injEq] at he
                subst he
                simp [Op.eqItems]
              | cons i is ih =>
                intro r he
                simp only [List.map_cons, List.flatten_cons] at he
                obtain ⟨a, b, k1, k2, rfl⟩ := eqC_app _ _ _ _ _ he
                have k3 := eqC_shift l1 a hall k1
                obtain ⟨p1, p2⟩ := run_part (P := P) (w := w) hl1 hsz k3
                have p3 := eqF_sound f e l1 hl1 d _ _ a (by omega) k3
                simp only [Op.eqItems, Sem.run_bind, p1, p2, p3, Result.andThen_ok, Sem.run_ite]
                cases a with
                | true => simpa using ih b k2
                | false => simp
            exact key _ r he
          · cases h
        · cases h
      · cases h

theorem equal_depth (t : TypeId) (u v : Value) : Op.equal t u v = Op.equalIn (9998 + 1 + 1) t u v := rfl

theorem ptrNil {d : Nat} {t e : TypeId} (h : P.underlying t = some (.pointer e)) (p : Addr) : (Op.equalIn (d + 1) t (.pointer (some p)) (.pointer none)).run P w = .ok false w := by
  simp [Op.equalIn, run_underlying h]
theorem nilNil {d : Nat} {t e : TypeId} (h : P.underlying t = some (.pointer e)) : (Op.equalIn (d + 1) t (.pointer none) (.pointer none)).run P w = .ok true w := by
  simp [Op.equalIn, run_underlying h]

theorem qeq_sound {t : Nat} {x y : TV} {u v : Value} {ox oy : Operand} {c : Prop} {r : Bool} (hx : RV E x u) (hy : RV E y v) (h : qeq P t x y = some (c, r)) (hc : c) :
    (do eqGuard .eql t ox oy u v; binOp .eql t u v : Sem Value).run P w = .ok (.bool r) w ∧ (do eqGuard .neq t ox oy u v; binOp .neq t u v : Sem Value).run P w = .ok (.bool (!r)) w := by
  unfold qeq at h
  split at h
  · rename_i a b
    cases h
    simp only [RV] at hx hy
    subst hx hy
    have := eqS_sound (P := P) (E := E) (w := w) (d := 9998 + 1) (x := .v (.bool a)) (y := .v (.bool b)) (u := .bool a) (v := .bool b) (r := decide (a = b)) hc (by simp only [RV]) (by simp only [RV]) rfl
    rw [← equal_depth] at this
    constructor <;> simp [eqGuard, binOp, this]
  · rename_i xs ys
    obtain ⟨l, hl, h⟩ := Option.bind_eq_some_iff.1 h
    obtain ⟨r', hr, h⟩ := Option.map_eq_some_iff.1 h
    cases h
    simp only [RV] at hx hy
    obtain ⟨us, rfl, u1, u2⟩ := hx
    obtain ⟨vs, rfl, v1, v2⟩ := hy
    unfold eqOf at hl
    split at hl
    · rename_i hcc
      have hrun := eqF_sound (P := P) (w := w) 20 t l hl 10000 us vs r (by omega) (eqAt_C u2 v2 l r hr)
      simp only [asV, hcc.2, if_true] at hrun
      have heq : (Op.equal t (.agg us.toArray) (.agg vs.toArray)).run P w = .ok r w := hrun
      constructor
      · simp [eqGuard, binOp, heq, hcc.1]
      · simp [eqGuard, binOp, heq, hcc.1]
    · cases hl
  · cases h
    simp only [RV] at hx hy
    obtain ⟨p, rfl, _⟩ := hx
    subst hy
    unfold isPtr at hc
    split at hc
    · rename_i e he
      have := ptrNil (P := P) (w := w) (d := 9998 + 1) he p
      rw [← equal_depth] at this
      constructor <;> simp [eqGuard, binOp, this]
    · cases hc
  · cases h
    simp only [RV] at hx hy
    obtain ⟨p, rfl, _⟩ := hx
    subst hy
    unfold isPtr at hc
    split at hc
    · rename_i e he
      have := ptrNil (P := P) (w := w) (d := 9998 + 1) he p
      rw [← equal_depth] at this
      constructor <;> simp [eqGuard, binOp, this]
    · cases hc
  · cases h
    simp only [RV] at hx hy
    subst hx hy
    unfold isPtr at hc
    split at hc
    · rename_i e he
      have := nilNil (P := P) (w := w) (d := 9998 + 1) he
      rw [← equal_depth] at this
      constructor <;> simp [eqGuard, binOp, this]
    · cases hc
  · cases h

theorem qbinT_sound {op : BinOp} {t : Nat} {x y : TV} {u v : Value} {ox oy : Operand} (hx : RV E x u) (hy : RV E y v) (h : (qbinT P op t x y).1) :
    ∃ z, RV E (qbinT P op t x y).2 z ∧ (do eqGuard op t ox oy u v; binOp op t u v : Sem Value).run P w = .ok z w := by
  unfold qbinT at h ⊢
  split at h
  · rename_i c r hq
    exact ⟨.bool r, by simp only [RV], (qeq_sound hx hy hq h).1⟩
  · rename_i c r hq
    exact ⟨.bool (!r), by simp only [RV], (qeq_sound hx hy hq h).2⟩
  · obtain ⟨r, z, rfl, h2, h3⟩ := binT_sound (P := P) (w := w) (t := t) (ox := ox) (oy := oy) hx hy (qbin_ok h)
    exact ⟨z, h2, h3⟩

theorem map_parts {ev : Operand → TV} {ρ : Operand → Value} (hev : ∀ x, RV E (ev x) (ρ x)) (ps : Array (Nat × Operand)) :
    (ps.toList.map fun p => (p.1, ev p.2)).length = (ps.map fun (i, x) => (i, ρ x)).toList.length ∧
    ∀ (j i : Nat) (x : TV), (ps.toList.map fun p => (p.1, ev p.2))[j]? = some (i, x) → ∃ v : Value, (ps.map fun (i, x) => (i, ρ x)).toList[j]? = some (i, v) ∧ RV E x v := by
  refine ⟨by simp, fun j i x hx => ?_⟩
  rw [List.getElem?_map] at hx
  obtain ⟨p, hp, hpx⟩ := Option.map_eq_some_iff.1 hx
  cases hpx
  exact ⟨ρ p.2, by simp [Array.toList_map, hp], hev _⟩

theorem qop_sound {o : Oper} {ev : Operand → TV} {ρ : Operand → Value} {p : PT} (H : SatH e E s.h w) (hev : ∀ x, RV E (ev x) (ρ x)) (hq : qop P s ev o.op = some p) (hp : p.1) :
    ∃ v, RV E p.2 v ∧ (execOp ρ o).run P w = .ok (.value v) w := by
  unfold qop at hq
  split at hq
  · rename_i x ho; cases hq; exact ⟨_, hev x, by simp [execOp, ho]⟩
  · rename_i x ho; cases hq; exact ⟨_, hev x, by simp [execOp, ho]⟩
  · rename_i c a b ho; cases hq
    obtain ⟨t, h1, h2⟩ := qpick_sound (hev c) (hev a) (hev b) hp
    exact ⟨_, h2, by cases t <;> simp [execOp, ho, h1, asBool]⟩
  · rename_i t ps ho; cases hq
    obtain ⟨m1, m2⟩ := map_parts hev ps
    obtain ⟨r, z, rfl, h2, h3⟩ := buildT_sound (P := P) (w := w) m1 m2 (qbuild_ok P hp)
    exact ⟨z, h2, by simp [execOp, ho, h3]⟩
  · rename_i t a ho; cases hq
    obtain ⟨r, z, rfl, h2, h3⟩ := loadT_sound H (hev a) (qload_ok P s hp)
    exact ⟨z, h2, by simp [execOp, ho, h3]⟩
  · rename_i x ho; cases hq; exact qnil_sound (hev x) ho rfl hp
  · rename_i op t x y t' ho
    split at hq
    · cases hq
    cases hq
    obtain ⟨z, h2, h3⟩ := qbinT_sound (P := P) (w := w) (op := op) (t := t) (ox := x) (oy := y) (hev x) (hev y) hp
    refine ⟨z, h2, ?_⟩
    simp only [execOp, ho, Sem.run_bind]
    simp only [Sem.run_bind] at h3
    rw [h3]
    simp
  · rename_i op t x ho; cases hq
    obtain ⟨r, z, rfl, h2, h3⟩ := unT_sound (P := P) (w := w) (hev x) (qun_ok hp)
    exact ⟨z, h2, by simp [execOp, ho, h3]⟩
  · rename_i a b x ho; cases hq
    obtain ⟨r, z, rfl, h2, h3⟩ := convT_sound H (hev x) (qconv_ok P s hp)
    exact ⟨z, h2, by simp [execOp, ho, h3]⟩
  · rename_i t x lo hi ho; cases hq
    obtain ⟨r, z, rfl, h2, h3⟩ := sliceT_sound (lov := lo.map ρ) (hiv := hi.map ρ) H (hev x) (fun y hy => by
      obtain ⟨q, rfl, rfl⟩ := Option.map_eq_some_iff.1 hy
      exact ⟨_, rfl, hev q⟩) (fun hn => by rw [Option.map_eq_none_iff] at hn; rw [hn]; rfl) (fun y hy => by
      obtain ⟨q, rfl, rfl⟩ := Option.map_eq_some_iff.1 hy
      exact ⟨_, rfl, hev q⟩) (fun hn => by rw [Option.map_eq_none_iff] at hn; rw [hn]; rfl) (qslice_ok P s hp)
    exact ⟨z, h2, by simp [execOp, ho, h3]⟩
  · rename_i t x lo hi m ho; cases hq
    obtain ⟨z, h2, h3⟩ := qslice3_ok (w := w) P (hev x) (hev lo) (hev hi) (hev m) hp
    exact ⟨z, h2, by simp [execOp, ho, h3]⟩
  · rename_i t x f ho; cases hq
    obtain ⟨r, z, rfl, h2, h3⟩ := fieldAddrT_sound (w := w) (hev x) (qfieldAddr_ok P hp)
    exact ⟨z, h2, by simp [execOp, ho, h3]⟩
  · rename_i t x f ho; cases hq
    obtain ⟨r, z, rfl, h2, h3⟩ := fieldT_sound (w := w) (hev x) (qfield_ok P hp)
    exact ⟨z, h2, by simp [execOp, ho, h3]⟩
  · rename_i t x i ho; cases hq
    obtain ⟨r, z, rfl, h2, h3⟩ := idxT_sound (w := w) (hev x) (hev i) (qidx_ok P hp)
    exact ⟨z, h2, by simp [execOp, ho, h3]⟩
  · rename_i t x i ho; cases hq
    obtain ⟨r, z, rfl, h2, h3⟩ := indexT_sound (w := w) (hev x) (hev i) (qindex_ok P hp)
    exact ⟨z, h2, by simp [execOp, ho, h3]⟩
  · rename_i x i ho; cases hq
    obtain ⟨r, z, rfl, h2, h3⟩ := extractT_sound (P := P) (w := w) (hev x) (qextract_ok hp)
    exact ⟨z, h2, by simp [execOp, ho, h3]⟩
  · rename_i t x ho; cases hq
    refine ⟨.iface t (ρ x), by simp only [RV]; exact ⟨_, rfl, hev x⟩, ?_⟩
    simp [execOp, ho, run_makeInterface w t _ hp]
  · rename_i b args ts ho
    split at hq
    · rename_i x t ts' h1 h2; cases hq
      have ha : args = #[x] := by apply Array.ext'; simpa using h1
      obtain ⟨r, z, rfl, k2, k3⟩ := lenT_sound (P := P) (w := w) (ty := o.type) (ts := ts) (vs := #[ρ x]) (by rw [← Array.getElem?_toList, h2]; rfl) rfl (hev x) (qlen_ok P hp)
      exact ⟨z, k2, by subst ha; simp [execOp, ho, resolve, invoke, builtin, k3]⟩
    · rename_i x y h1; cases hq
      have ha : args = #[x, y] := by apply Array.ext'; simpa using h1
      obtain ⟨r, z, rfl, k2, k3⟩ := mmT_sound (P := P) (w := w) (ty := o.type) (ts := ts) true (hev x) (hev y) (qmm_ok hp)
      simp only [if_true] at k3
      exact ⟨z, k2, by subst ha; simp [execOp, ho, resolve, invoke, builtin, k3]⟩
    · rename_i x y h1; cases hq
      have ha : args = #[x, y] := by apply Array.ext'; simpa using h1
      obtain ⟨r, z, rfl, k2, k3⟩ := mmT_sound (P := P) (w := w) (ty := o.type) (ts := ts) false (hev x) (hev y) (qmm_ok hp)
      simp only [Bool.false_eq_true, if_false] at k3
      exact ⟨z, k2, by subst ha; simp [execOp, ho, resolve, invoke, builtin, k3]⟩
    · cases hq
  · cases hq
end
end Go.Proofs.YtekmhdiajjfgfaaDoor.TL
