/- Own words, part 8: one operation, a region's operations in their order. No program is named here. -/
import Derived.Test.YtfhckddfmlljfaaTi
import Derived.Laws.StructEq
namespace Go.Proofs.Ytfhckddfmlljfaa.TL
open Go
set_option linter.unusedVariables false
set_option linter.unusedSimpArgs false

def strip (g : Bool) (x : TV) : TV :=
  match x with
  | .opt g' y => if g' = g then y else .opt g' y
  | x => x
def TS.evg (s : TS) (g : Bool) (x : Operand) : TV := strip g (s.ev x)

theorem strip_sound {E : Env} {g : Bool} {x : TV} {y : Value} (hx : RV E x y) (hg : g = true) : RV E (strip g x) y := by
  unfold strip
  split
  · split
    · rename_i h; subst h; simp only [RV] at hx; exact hx.1 hg
    · exact hx
  · exact hx

def iteTV (t : Bool) (a b : TV) : TV := if t then a else b
theorem iteTV_true {a b : TV} : iteTV true a b = a := rfl
theorem iteTV_false {a b : TV} : iteTV false a b = b := rfl
theorem iteTV_bool {t x y : Bool} : iteTV t (.v (.bool x)) (.v (.bool y)) = .v (.bool (if t then x else y)) := by cases t <;> rfl
def qpick (c a b : TV) : PT :=
  match c with
  | .v (.bool t) => (True, iteTV t (strip t a) (strip (!t) b))
  | _ => no

def qnil (x : TV) : PT :=
  match x with
  | .at b ver o => (True, .at b ver o)
  | .iat c => (True, .iat c)
  | .fn (.func f) caps => (True, .fn (.func f) caps)
  | .v (.func (.func f) a b) => (True, .v (.func (.func f) a b))
  | _ => no

/-- Numbers (0), texts (1), truth values (2). -/
def scal (P : Program) (t : Nat) : Option Nat := match P.underlying t with | some (.int _) => some 0 | some .string => some 1 | some .bool => some 2 | _ => none
/-- A struct of such alone: where they lie, of which kind. -/
def eqOf (P : Program) (t : Nat) : Option (List (Nat × Nat)) :=
  match P.underlying t with
  | some (.struct fs) => if P.stoodInHeld t = false ∧ Program.eqGuardType P P.depth t = false then fs.toList.mapM fun f => if f.name ≠ "_" ∧ isAg P f.type = false then (scal P f.type).map fun k => (f.offset, k) else none else none
  | _ => none
def eqS (k : Nat) (x y : TV) : Option Bool :=
  match k, x, y with
  | 0, .v (.int k a), .v (.int k' b) => if k = k' then some (decide (a = b)) else none
  | 1, .v (.string a), .v (.string b) => some (decide (sl a = sl b))
  | 2, .v (.bool a), .v (.bool b) => some (decide (a = b))
  | _, _, _ => none
def eqAt : List (Nat × Nat) → List TV → List TV → Option Bool
  | [], _, _ => some true
  | (o, k) :: l, xs, ys => match xs.drop o, ys.drop o with
    | x :: _, y :: _ => match eqS k x y, eqAt l xs ys with
      | some a, some b => some (a && b)
      | _, _ => none
    | _, _ => none
def isPtr (P : Program) (t : Nat) : Bool := match P.underlying t with | some (.pointer _) => true | _ => false

def qeq (P : Program) (t : Nat) (x y : TV) : Option (Prop × Bool) :=
  match x, y with
  | .v (.bool a), .v (.bool b) => some (scal P t = some 2, decide (a = b))
  | .agg xs, .agg ys => (eqOf P t).bind fun l => (eqAt l xs ys).map fun r => (True, r)
  | .at _ _ _, .v (.pointer none) | .iat _, .v (.pointer none) => some (isPtr P t = true, false)
  | .v (.pointer none), .v (.pointer none) => some (isPtr P t = true, true)
  | _, _ => none

def qbinT (P : Program) (op : BinOp) (t : Nat) (x y : TV) : PT :=
  match op, qeq P t x y with
  | .eql, some (c, r) => (c, .v (.bool r))
  | .neq, some (c, r) => (c, .v (.bool (!r)))
  | op, _ => qbin op x y

def qop (P : Program) (s : TS) (ev : Operand → TV) (op : Op) : Option PT :=
  match op with
  | .move x | .assign x => some (True, ev x)
  | .pick c a b => some (qpick (ev c) (ev a) (ev b))
  | .build t ps => some (qbuild P t (ps.toList.map fun p => (p.1, ev p.2)))
  | .load t a => some (qload P s t (ev a))
  | .nilCheck x => some (qnil (ev x))
  | .binOp op t x y _ => some (qbinT P op t (ev x) (ev y))
  | .unOp op _ x => some (qun op (ev x))
  | .convert a b x => some (qconv P s a b (ev x))
  | .slice t x lo hi none => some (qslice P s t (ev x) (lo.map ev) (hi.map ev))
  | .fieldAddr t x f => some (qfieldAddr P t f (ev x))
  | .field t x f => some (qfield P t f (ev x))
  | .indexAddr t x i => some (qidx P t (ev x) (ev i))
  | .index t x i => some (qindex P t (ev x) (ev i))
  | .extract x i => some (qextract (ev x) i)
  | .makeInterface t x => some (P.concrete t = true, .ifc t (ev x))
  | .call { callee := .builtin b, args, argTypes } => match b, args.toList, argTypes.toList with
    | .len, [x], t :: _ => some (qlen P t (ev x))
    | .max, [x, y], _ => some (qmm true (ev x) (ev y))
    | .min, [x, y], _ => some (qmm false (ev x) (ev y))
    | _, _, _ => none
  | _ => none

section
variable {P : Program} {e : Ent} {E : Env} {s : TS} {w : World}

theorem qpick_sound {c a b : TV} {cv av bv : Value} (hc : RV E c cv) (ha : RV E a av) (hb : RV E b bv) (h : (qpick c a b).1) :
    ∃ t, cv = .bool t ∧ RV E (qpick c a b).2 (if t then av else bv) := by
  unfold qpick at h ⊢
  split at h
  · rename_i t
    simp only [RV] at hc
    subst hc
    refine ⟨t, rfl, ?_⟩
    cases t
    · exact strip_sound (g := true) hb rfl
    · exact strip_sound (g := true) ha rfl
  · simp [no] at h

theorem qnil_sound {x : TV} {u : Value} {o : Oper} {ρ : Operand → Value} {ox : Operand} (hx : RV E x u) (ho : o.op = .nilCheck ox) (hu : ρ ox = u) (h : (qnil x).1) : ∃ v, RV E (qnil x).2 v ∧ (execOp ρ o).run P w = .ok (.value v) w := by
  unfold qnil at h ⊢
  split at h
  · refine ⟨u, hx, ?_⟩
    simp only [RV] at hx
    obtain ⟨p, rfl, _⟩ := hx
    simp [execOp, ho, hu]
  · refine ⟨u, hx, ?_⟩
    simp only [RV] at hx
    obtain ⟨p, rfl, _⟩ := hx
    simp [execOp, ho, hu]
  · refine ⟨u, hx, ?_⟩
    simp only [RV] at hx
    obtain ⟨zs, rfl, _⟩ := hx
    simp [execOp, ho, hu]
  · refine ⟨u, hx, ?_⟩
    simp only [RV] at hx
    subst hx
    simp [execOp, ho, hu]
  · simp [no] at h

theorem eqS_sound {d k : Nat} {t : TypeId} {x y : TV} {u v : Value} {r : Bool} (hk : scal P t = some k) (hx : RV E x u) (hy : RV E y v) (h : eqS k x y = some r) : (Op.equalIn (d + 1) t u v).run P w = .ok r w := by
  unfold eqS at h
  unfold scal at hk
  split at h
  · split at h
    · rename_i a k' b hkk
      cases h
      simp only [RV] at hx hy
      subst hx hy hkk
      split at hk
      · rename_i q hq; rw [run_equalIn_int w d t _ _ a b hq, beq_dec]
      · cases hk
      · cases hk
      · cases hk
    · cases h
  · rename_i a b
    cases h
    simp only [RV] at hx hy
    subst hx hy
    split at hk
    · cases hk
    · rename_i hq
      rw [run_equalIn_string w d t a b hq, toList_eq_sl, toList_eq_sl]
      congr 1
      by_cases hh : sl a = sl b <;> simp [hh]
    · cases hk
    · cases hk
  · rename_i a b
    cases h
    simp only [RV] at hx hy
    subst hx hy
    split at hk
    · cases hk
    · cases hk
    · rename_i hq; rw [run_equalIn_bool' w d t a b hq, beq_dec]
    · cases hk
  · cases h

theorem eqAt_sound {d : Nat} {xs ys : List TV} {us vs : List Value} (hu : us.length = xs.length) (hv : vs.length = ys.length) (hx : RVl E xs (fun i => us[i]?) 0) (hy : RVl E ys (fun i => vs[i]?) 0) :
    ∀ (fs : List Field) (l : List (Nat × Nat)) (r : Bool), (fs.mapM fun f => if f.name ≠ "_" ∧ isAg P f.type = false then (scal P f.type).map fun k => (f.offset, k) else none) = some l → eqAt l xs ys = some r →
      (Op.eqFields (d + 1) us.toArray vs.toArray fs).run P w = .ok r w
  | [], l, r, hl, h => by
    simp at hl
    subst hl
    simp only [eqAt, Option.some.injEq] at h
    subst h
    simp [Op.eqFields]
  | f :: fs, l, r, hl, h => by
    simp only [List.mapM_cons, Option.bind_eq_bind, Option.pure_def] at hl
    split at hl
    · rename_i hc
      obtain ⟨p, hp, hl⟩ := Option.bind_eq_some_iff.1 hl
      obtain ⟨k, hk, rfl⟩ := Option.map_eq_some_iff.1 hp
      obtain ⟨l', hl', hl⟩ := Option.bind_eq_some_iff.1 hl
      cases hl
      simp only [eqAt] at h
      split at h
      · rename_i x xs' y ys' h1 h2
        split at h
        · rename_i a b h3 h4
          cases h
          obtain ⟨u, u1, u2⟩ := hx.get _ x (getElem?_drop_cons h1)
          obtain ⟨v, v1, v2⟩ := hy.get _ y (getElem?_drop_cons h2)
          rw [Nat.zero_add] at u1 v1
          have hU : hasU P f.type = true := by
            unfold scal at hk
            unfold hasU
            cases hh : P.underlying f.type with
            | none => rw [hh] at hk; cases hk
            | some q => rfl
          have e1 : ∀ z : List Value, ∀ q, z[f.offset]? = some q → (part f.type z.toArray f.offset).run P w = .ok q w := fun z q hq => by
            simp [part, run_isAg hU, hc.2, hq]
          have ih := eqAt_sound (d := d) hu hv hx hy fs l' b hl' h4
          simp only [Op.eqFields]
          rw [if_pos hc.1]
          simp only [Sem.run_bind, e1 us u u1, e1 vs v v1, Result.andThen_ok, eqS_sound (d := d) hk u2 v2 h3, Sem.run_ite]
          cases a with
          | true => simpa using ih
          | false => simp
        · cases h
      · cases h
    · simp at hl

theorem equal_depth (t : TypeId) (u v : Value) : Op.equal t u v = Op.equalIn (9998 + 1 + 1) t u v := rfl

theorem ptrNil {d : Nat} {t e : TypeId} (h : P.underlying t = some (.pointer e)) (p : Addr) : (Op.equalIn (d + 1) t (.pointer (some p)) (.pointer none)).run P w = .ok false w := by
  simp [Op.equalIn, run_underlying h]
theorem nilNil {d : Nat} {t e : TypeId} (h : P.underlying t = some (.pointer e)) : (Op.equalIn (d + 1) t (.pointer none) (.pointer none)).run P w = .ok true w := by
  simp [Op.equalIn, run_underlying h]

theorem qeq_sound {t : Nat} {x y : TV} {u v : Value} {ox oy : Operand} {c : Prop} {r : Bool} (hx : RV E x u) (hy : RV E y v) (h : qeq P t x y = some (c, r)) (hc : c) :
    (do eqGuard .eql t ox oy u v; binOp .eql t u v : Sem Value).run P w = .ok (.bool r) w ∧ (do eqGuard .neq t ox oy u v; binOp .neq t u v : Sem Value).run P w = .ok (.bool (!r)) w := by
  unfold qeq at h
  split at h
  · rename_i a b
    cases h
    simp only [RV] at hx hy
    subst hx hy
    have := eqS_sound (P := P) (E := E) (w := w) (d := 9998 + 1) (x := .v (.bool a)) (y := .v (.bool b)) (u := .bool a) (v := .bool b) (r := decide (a = b)) hc (by simp only [RV]) (by simp only [RV]) rfl
    rw [← equal_depth] at this
    constructor <;> simp [eqGuard, binOp, this]
  · rename_i xs ys
    obtain ⟨l, hl, h⟩ := Option.bind_eq_some_iff.1 h
    obtain ⟨r', hr, h⟩ := Option.map_eq_some_iff.1 h
    cases h
    simp only [RV] at hx hy
    obtain ⟨us, rfl, u1, u2⟩ := hx
    obtain ⟨vs, rfl, v1, v2⟩ := hy
    unfold eqOf at hl
    split at hl
    · rename_i fs hu
      split at hl
      · rename_i hcc
        have hf : P.fieldsOf t = fs := by simp [Program.fieldsOf, hu]
        have hrun := eqAt_sound (P := P) (w := w) (d := 9998) u1 v1 u2 v2 fs.toList l r hl hr
        have heq : (Op.equal t (.agg us.toArray) (.agg vs.toArray)).run P w = .ok r w := by
          rw [equal_depth, run_equalIn_struct w (9998 + 1) t _ _ (by rw [hf]; exact hu) hcc.1, hf]
          exact hrun
        constructor
        · simp [eqGuard, binOp, heq, hcc.2]
        · simp [eqGuard, binOp, heq, hcc.2]
      · cases hl
    · cases hl
  · cases h
    simp only [RV] at hx hy
    obtain ⟨p, rfl, _⟩ := hx
    subst hy
    unfold isPtr at hc
    split at hc
    · rename_i e he
      have := ptrNil (P := P) (w := w) (d := 9998 + 1) he p
      rw [← equal_depth] at this
      constructor <;> simp [eqGuard, binOp, this]
    · cases hc
  · cases h
    simp only [RV] at hx hy
    obtain ⟨p, rfl, _⟩ := hx
    subst hy
    unfold isPtr at hc
    split at hc
    · rename_i e he
      have := ptrNil (P := P) (w := w) (d := 9998 + 1) he p
      rw [← equal_depth] at this
      constructor <;> simp [eqGuard, binOp, this]
    · cases hc
  · cases h
    simp only [RV] at hx hy
    subst hx hy
    unfold isPtr at hc
    split at hc
    · rename_i e he
      have := nilNil (P := P) (w := w) (d := 9998 + 1) he
      rw [← equal_depth] at this
      constructor <;> simp [eqGuard, binOp, this]
    · cases hc
  · cases h

theorem qbinT_sound {op : BinOp} {t : Nat} {x y : TV} {u v : Value} {ox oy : Operand} (hx : RV E x u) (hy : RV E y v) (h : (qbinT P op t x y).1) :
    ∃ z, RV E (qbinT P op t x y).2 z ∧ (do eqGuard op t ox oy u v; binOp op t u v : Sem Value).run P w = .ok z w := by
  unfold qbinT at h ⊢
  split at h
  · rename_i c r hq
    exact ⟨.bool r, by simp only [RV], (qeq_sound hx hy hq h).1⟩
  · rename_i c r hq
    exact ⟨.bool (!r), by simp only [RV], (qeq_sound hx hy hq h).2⟩
  · obtain ⟨r, z, rfl, h2, h3⟩ := binT_sound (P := P) (w := w) (t := t) (ox := ox) (oy := oy) hx hy (qbin_ok h)
    exact ⟨z, h2, h3⟩

theorem map_parts {ev : Operand → TV} {ρ : Operand → Value} (hev : ∀ x, RV E (ev x) (ρ x)) (ps : Array (Nat × Operand)) :
    (ps.toList.map fun p => (p.1, ev p.2)).length = (ps.map fun (i, x) => (i, ρ x)).toList.length ∧
    ∀ (j i : Nat) (x : TV), (ps.toList.map fun p => (p.1, ev p.2))[j]? = some (i, x) → ∃ v : Value, (ps.map fun (i, x) => (i, ρ x)).toList[j]? = some (i, v) ∧ RV E x v := by
  refine ⟨by simp, fun j i x hx => ?_⟩
  rw [List.getElem?_map] at hx
  obtain ⟨p, hp, hpx⟩ := Option.map_eq_some_iff.1 hx
  cases hpx
  exact ⟨ρ p.2, by simp [Array.toList_map, hp], hev _⟩

theorem qop_sound {o : Oper} {ev : Operand → TV} {ρ : Operand → Value} {p : PT} (H : SatH e E s.h w) (hev : ∀ x, RV E (ev x) (ρ x)) (hq : qop P s ev o.op = some p) (hp : p.1) :
    ∃ v, RV E p.2 v ∧ (execOp ρ o).run P w = .ok (.value v) w := by
  unfold qop at hq
  split at hq
  · rename_i x ho; cases hq; exact ⟨_, hev x, by simp [execOp, ho]⟩
  · rename_i x ho; cases hq; exact ⟨_, hev x, by simp [execOp, ho]⟩
  · rename_i c a b ho; cases hq
    obtain ⟨t, h1, h2⟩ := qpick_sound (hev c) (hev a) (hev b) hp
    exact ⟨_, h2, by cases t <;> simp [execOp, ho, h1, asBool]⟩
  · rename_i t ps ho; cases hq
    obtain ⟨m1, m2⟩ := map_parts hev ps
    obtain ⟨r, z, rfl, h2, h3⟩ := buildT_sound (P := P) (w := w) m1 m2 (qbuild_ok P hp)
    exact ⟨z, h2, by simp [execOp, ho, h3]⟩
  · rename_i t a ho; cases hq
    obtain ⟨r, z, rfl, h2, h3⟩ := loadT_sound H (hev a) (qload_ok P s hp)
    exact ⟨z, h2, by simp [execOp, ho, h3]⟩
  · rename_i x ho; cases hq; exact qnil_sound (hev x) ho rfl hp
  · rename_i op t x y t' ho; cases hq
    obtain ⟨z, h2, h3⟩ := qbinT_sound (P := P) (w := w) (op := op) (t := t) (ox := x) (oy := y) (hev x) (hev y) hp
    refine ⟨z, h2, ?_⟩
    simp only [execOp, ho, Sem.run_bind]
    simp only [Sem.run_bind] at h3
    rw [h3]
    simp
  · rename_i op t x ho; cases hq
    obtain ⟨r, z, rfl, h2, h3⟩ := unT_sound (P := P) (w := w) (hev x) (qun_ok hp)
    exact ⟨z, h2, by simp [execOp, ho, h3]⟩
  · rename_i a b x ho; cases hq
    obtain ⟨r, z, rfl, h2, h3⟩ := convT_sound H (hev x) (qconv_ok P s hp)
    exact ⟨z, h2, by simp [execOp, ho, h3]⟩
  · rename_i t x lo hi ho; cases hq
    obtain ⟨r, z, rfl, h2, h3⟩ := sliceT_sound (lov := lo.map ρ) (hiv := hi.map ρ) H (hev x) (fun y hy => by
      obtain ⟨q, rfl, rfl⟩ := Option.map_eq_some_iff.1 hy
      exact ⟨_, rfl, hev q⟩) (fun hn => by rw [Option.map_eq_none_iff] at hn; rw [hn]; rfl) (fun y hy => by
      obtain ⟨q, rfl, rfl⟩ := Option.map_eq_some_iff.1 hy
      exact ⟨_, rfl, hev q⟩) (fun hn => by rw [Option.map_eq_none_iff] at hn; rw [hn]; rfl) (qslice_ok P s hp)
    exact ⟨z, h2, by simp [execOp, ho, h3]⟩
  · rename_i t x f ho; cases hq
    obtain ⟨r, z, rfl, h2, h3⟩ := fieldAddrT_sound (w := w) (hev x) (qfieldAddr_ok P hp)
    exact ⟨z, h2, by simp [execOp, ho, h3]⟩
  · rename_i t x f ho; cases hq
    obtain ⟨r, z, rfl, h2, h3⟩ := fieldT_sound (w := w) (hev x) (qfield_ok P hp)
    exact ⟨z, h2, by simp [execOp, ho, h3]⟩
  · rename_i t x i ho; cases hq
    obtain ⟨r, z, rfl, h2, h3⟩ := idxT_sound (w := w) (hev x) (hev i) (qidx_ok P hp)
    exact ⟨z, h2, by simp [execOp, ho, h3]⟩
  · rename_i t x i ho; cases hq
    obtain ⟨r, z, rfl, h2, h3⟩ := indexT_sound (w := w) (hev x) (hev i) (qindex_ok P hp)
    exact ⟨z, h2, by simp [execOp, ho, h3]⟩
  · rename_i x i ho; cases hq
    obtain ⟨r, z, rfl, h2, h3⟩ := extractT_sound (P := P) (w := w) (hev x) (qextract_ok hp)
    exact ⟨z, h2, by simp [execOp, ho, h3]⟩
  · rename_i t x ho; cases hq
    refine ⟨.iface t (ρ x), by simp only [RV]; exact ⟨_, rfl, hev x⟩, ?_⟩
    simp [execOp, ho, run_makeInterface w t _ hp]
  · rename_i b args ts ho
    split at hq
    · rename_i x t ts' h1 h2; cases hq
      have ha : args = #[x] := by apply Array.ext'; simpa using h1
      obtain ⟨r, z, rfl, k2, k3⟩ := lenT_sound (P := P) (w := w) (ty := o.type) (ts := ts) (vs := #[ρ x]) (by rw [← Array.getElem?_toList, h2]; rfl) rfl (hev x) (qlen_ok P hp)
      exact ⟨z, k2, by subst ha; simp [execOp, ho, resolve, invoke, builtin, k3]⟩
    · rename_i x y h1; cases hq
      have ha : args = #[x, y] := by apply Array.ext'; simpa using h1
      obtain ⟨r, z, rfl, k2, k3⟩ := mmT_sound (P := P) (w := w) (ty := o.type) (ts := ts) true (hev x) (hev y) (qmm_ok hp)
      simp only [if_true] at k3
      exact ⟨z, k2, by subst ha; simp [execOp, ho, resolve, invoke, builtin, k3]⟩
    · rename_i x y h1; cases hq
      have ha : args = #[x, y] := by apply Array.ext'; simpa using h1
      obtain ⟨r, z, rfl, k2, k3⟩ := mmT_sound (P := P) (w := w) (ty := o.type) (ts := ts) false (hev x) (hev y) (qmm_ok hp)
      simp only [Bool.false_eq_true, if_false] at k3
      exact ⟨z, k2, by subst ha; simp [execOp, ho, resolve, invoke, builtin, k3]⟩
    · cases hq
  · cases hq
end
end Go.Proofs.Ytfhckddfmlljfaa.TL
