/- Own words, part 17: regions whose order is drawn, with a chain of operations that change memory. No program is named here. -/
import Derived.Test.YtekmhdiajjfgfaaDoorTr
namespace Go.Proofs.YtekmhdiajjfgfaaDoor.TL
open Go
set_option linter.unusedVariables false
set_option linter.unusedSimpArgs false

section
variable {P : Program} {ops : Array Oper}

def isEff : Op → Bool
  | .call { callee := .value _, .. } | .call { callee := .builtin .append, .. } | .call { callee := .builtin .clear, .. } | .store _ _ _ | .box _ _ | .alloc _ | .buildSlice _ 0 _ => true
  | _ => false
/-- A row that is built and never changes. -/
def frzSlice (P : Program) (t n : Nat) (parts : List (Nat × TV)) : Option PT :=
  match elemOf P t with
  | some k => match fillT (fun i => some (i * k, k)) (List.replicate (n * k) .any) parts with
    | some l => some (k ≠ 0 ∧ n * k ≤ 16777216, .isl l n)
    | none => none
  | none => none
def qopB (P : Program) (s : TS) (ev : Operand → TV) (op : Op) : Option PT :=
  match op with
  | .buildSlice t n ps => frzSlice P t n (ps.toList.map fun p => (p.1, ev p.2))
  | op => qop P s ev op
def freshB (op : Op) (h : Heap) (d : Nat) : Prop := match op with | .buildSlice _ _ _ => getH h d = none | _ => True
def guardsOf (ops : Array Oper) (t : List (Nat × TV)) (o : Oper) : Option (List Bool) :=
  match o.guard with
  | none => some []
  | some (j, want) => (((ops[j]?).bind (·.dst)).map (getT t)).bind (guardOf want)
def sameL (a b : List (Nat × TV)) : Prop := a = b
theorem sameL_go {a : List (Nat × TV)} {C : List (Nat × TV) → Prop} (h : C a) : ∀ t', sameL t' a → C t' := fun t' e => by unfold sameL at e; subst e; exact h

variable {X : Type} {g : X → Heap} {x0 : X}
def chStep (P : Program) (ops : Array Oper) {X : Type} (g : X → Heap) (x0 : X) (o : Oper) (J : X → Prop) (t : List (Nat × TV)) (K : List (Nat × TV) → (X → Prop) → Prop) : Prop :=
  match guardsOf ops t o with
  | none => False
  | some gs => match qopB P ⟨t, g x0⟩ (fun x => stripL gs ((⟨t, g x0⟩ : TS).ev x)) o.op with
    | some p => isEff o.op = false ∧ impL gs p.1 ∧ (∀ x, qopB P ⟨t, g x⟩ (fun x => stripL gs ((⟨t, g x0⟩ : TS).ev x)) o.op = some p) ∧ (∀ x, freshB o.op (g x) (o.dst.getD 0)) ∧ K ((o.dst.getD 0, optL gs p.2) :: t) J
    | none => isEff o.op = true ∧ ∃ R, ∃ J' : X → Prop, impL gs (∀ x, J x → effT P (o.dst.getD 0) o.op (stripS gs ⟨t, g x⟩) fun r h => r = R ∧ ∃ y, h = g y ∧ J' y) ∧ (allB gs = false → ∀ x, J x → J' x) ∧
        ∀ t', sameL t' ((o.dst.getD 0, optL gs R) :: t) → K t' J'
def chT (P : Program) (ops : Array Oper) {X : Type} (g : X → Heap) (x0 : X) : List Oper → (X → Prop) → List (Nat × TV) → (List (Nat × TV) → (X → Prop) → Prop) → Prop
  | [], J, t, K => K t J
  | o :: l, J, t, K => chStep P ops g x0 o J t fun t' J' => chT P ops g x0 l J' t' K

def effAt (ops : Array Oper) (i : Nat) : Bool := match ops[i]? with | some o => isEff o.op | none => false
/-- The last operation that changes memory of those that an operation waits for (one more than its number; 0: none). -/
def leTab (ops : Array Oper) : List Nat := ops.toList.foldl (fun acc o => acc ++ [o.after.toList.foldl (fun s e => if Region.binds .any e then max s (if effAt ops e.on then e.on + 1 else acc.getD e.on 0) else s) 0]) []
def leAt (c : List Nat) (i : Nat) : Nat := c.getD i 0
/-- Operations that change memory wait for each other. -/
def chainC (ops : Array Oper) (n : Nat) (c : List Nat) : Bool :=
  (List.range n).all fun i => match ops[i]? with
    | some o => (decide (leAt c i = 0) || (effAt ops (leAt c i - 1) && decide (leAt c i - 1 < n) && o.after.any fun e => Region.binds .any e && (decide (leAt c i = e.on + 1) || decide (leAt c i = leAt c e.on)))) &&
        (!isEff o.op || (List.range i).all fun j => !effAt ops j || decide (j < leAt c i))
    | none => true
def chainB (ops : Array Oper) (n : Nat) : Bool := chainC ops n (leTab ops)

theorem chStep_get {o : Oper} {J : X → Prop} {t : List (Nat × TV)} {K : List (Nat × TV) → (X → Prop) → Prop} (h : chStep P ops g x0 o J t K) :
    ∃ (v : TV) (J' : X → Prop), K ((o.dst.getD 0, v) :: t) J' ∧ chStep P ops g x0 o J t fun t2 J2 => t2 = (o.dst.getD 0, v) :: t ∧ J2 = J' := by
  unfold chStep at h
  split at h
  · exact h.elim
  · rename_i gs hgs
    split at h
    · rename_i p hq
      obtain ⟨h1, h2, h3, h4, h5⟩ := h
      refine ⟨_, J, h5, ?_⟩
      unfold chStep
      simp only [hgs, hq]
      exact ⟨h1, h2, h3, h4, by trivial⟩
    · rename_i hq
      obtain ⟨h1, R, J', h2, h3, h4⟩ := h
      refine ⟨optL gs R, J', h4 _ rfl, ?_⟩
      unfold chStep
      simp only [hgs, hq]
      exact ⟨h1, R, J', h2, h3, fun t' e => ⟨e, rfl⟩⟩

theorem chain_vals {t : List (Nat × TV)} {K : List (Nat × TV) → (X → Prop) → Prop} : ∀ (l : List Oper) (k : Nat) (val : Nat → TV) (Jat : Nat → X → Prop), (∀ i o, l[i]? = some o → ops[k + i]? = some o ∧ o.dst.isSome = true) →
    chT P ops g x0 l (Jat k) (tAt ops val t (List.range k).reverse) K →
    ∃ (val' : Nat → TV) (Jat' : Nat → X → Prop), (∀ j, j < k → val' j = val j) ∧ (∀ j, j ≤ k → Jat' j = Jat j) ∧ K (tAt ops val' t (List.range (k + l.length)).reverse) (Jat' (k + l.length)) ∧
      ∀ i o, l[i]? = some o → chStep P ops g x0 o (Jat' (k + i)) (tAt ops val' t (List.range (k + i)).reverse) fun t2 J2 => t2 = (o.dst.getD 0, val' (k + i)) :: tAt ops val' t (List.range (k + i)).reverse ∧ J2 = Jat' (k + i + 1)
  | [], k, val, Jat, hl, hq => ⟨val, Jat, fun _ _ => rfl, fun _ _ => rfl, hq, fun i o hi => by simp at hi⟩
  | o :: l, k, val, Jat, hl, hq => by
    simp only [chT] at hq
    obtain ⟨v, J', hq1, hq2⟩ := chStep_get hq
    obtain ⟨ho, hod⟩ := hl 0 o rfl
    rw [Nat.add_zero] at ho
    have hdst : o.dst.getD 0 = dstAt ops k := by simp [dstAt, ho]
    let val1 : Nat → TV := fun j => if j = k then v else val j
    let Jat1 : Nat → X → Prop := fun j => if j = k + 1 then J' else Jat j
    have e1 : tAt ops val1 t (List.range (k + 1)).reverse = (o.dst.getD 0, v) :: tAt ops val t (List.range k).reverse := by
      rw [List.range_succ, List.reverse_append, List.reverse_singleton, List.singleton_append]
      simp only [tAt, List.map_cons, List.cons_append, hdst, val1, if_true]
      congr 2
      exact List.map_congr_left fun j hj => by rw [if_neg (by simp at hj; omega)]
    have e2 : Jat1 (k + 1) = J' := by simp only [Jat1, if_true]
    obtain ⟨val', Jat', h1, h1J, h2, h3⟩ := chain_vals l (k + 1) val1 Jat1 (fun i o hi => by have := hl (i + 1) o (by simpa using hi); rwa [show k + (i + 1) = k + 1 + i by omega] at this) (by rw [e1, e2]; exact hq1)
    refine ⟨val', Jat', fun j hj => by rw [h1 j (by omega)]; simp only [val1]; rw [if_neg (by omega)], fun j hj => by rw [h1J j (by omega)]; simp only [Jat1]; rw [if_neg (by omega)], ?_, fun i o' hi => ?_⟩
    · rw [List.length_cons, show k + (l.length + 1) = k + 1 + l.length by omega]; exact h2
    · cases i with
      | zero =>
        simp at hi
        subst hi
        rw [Nat.add_zero]
        have hv : val' k = v := by rw [h1 k (by omega)]; simp only [val1, if_true]
        have hJ1 : Jat' (k + 1) = J' := by rw [h1J _ (by omega), e2]
        have hJ0 : Jat' k = Jat k := by rw [h1J _ (by omega)]; simp only [Jat1]; rw [if_neg (by omega)]
        rw [hv, hJ1, hJ0, tAt_val (val := val') (val' := val) fun j hj => by rw [h1 j (by simp at hj; omega)]; simp only [val1]; rw [if_neg (by simp at hj; omega)]]
        exact hq2
      | succ i =>
        have := h3 i o' (by simpa using hi)
        rwa [show k + 1 + i = k + (i + 1) by omega] at this

theorem SatH.heap {e : Ent} {E : Env} {h h' : Heap} {w : World} (H : SatH e E h w) (hh : ∀ n, getH h' n = getH h n) : SatH e E h' w :=
  ⟨H.imm, fun b ver B hb => H.live b ver B (by rw [← hh]; exact hb), fun b hb => H.dead b (by rw [← hh]; exact hb), H.vers, H.ownd, H.apart, H.gr⟩

theorem qopB_congr {s s' : TS} {ev ev' : Operand → TV} {op : Op} (hh : s.h = s'.h) (h : ∀ x ∈ opnds op, ev x = ev' x) : qopB P s ev op = qopB P s' ev' op := by
  unfold qopB
  split
  · rename_i t n ps
    simp only [opnds] at h
    rw [show (ps.toList.map fun p => (p.1, ev p.2)) = ps.toList.map fun p => (p.1, ev' p.2) from List.map_congr_left fun p hm => by rw [h p.2 (List.mem_map.2 ⟨p, hm, rfl⟩)]]
  · exact qop_congr hh h

theorem effT_congr {d : Nat} {s s' : TS} {op : Op} {K : TV → Heap → Prop} (hh : s.h = s'.h) (he : isEff op = true) (hx : ∀ x ∈ opnds op, s.ev x = s'.ev x) (h : effT P d op s K) : effT P d op s' K := by
  unfold effT at h ⊢
  split at h
  · unfold allocT at h ⊢; rw [← hh]; exact h
  · rw [← hx _ (by simp [opnds])]; unfold boxT at h ⊢; rw [← hh]; exact h
  · rename_i t n ps
    have : (ps.toList.map fun p => (p.1, s.ev p.2)) = ps.toList.map fun p => (p.1, s'.ev p.2) := List.map_congr_left fun p hp => by rw [hx _ (by simp only [opnds]; exact List.mem_map.2 ⟨p, hp, rfl⟩)]
    rw [← this]
    unfold buildSliceT at h ⊢
    rw [← hh]
    exact h
  · rw [← hx _ (by simp [opnds]), ← hx _ (by simp [opnds])]
    unfold storeT at h ⊢
    simp only [← hh]
    exact h
  · split at h
    · rename_i args ts x y ta tx h1 h2
      simp only [opnds, h1] at hx
      rw [← hx x (by simp), ← hx y (by simp)]
      unfold appT srcT at h ⊢
      simp only [← hh]
      exact h
    · exact h.elim
  · split at h
    · rename_i args ts x t h1 h2
      simp only [opnds, h1] at hx
      rw [← hx x (by simp)]
      unfold clearT at h ⊢
      simp only [← hh]
      exact h
    · exact h.elim
  · rename_i f args ts
    simp only [opnds, List.mem_cons, forall_eq_or_imp] at hx
    rw [← hx.1, ← List.map_congr_left hx.2]
    exact funT_h hh h
  · simp [isEff] at he
  · simp [isEff] at he
  · exact h.elim

theorem getH_del_set {h : Heap} {d : Nat} {y : Nat × Blk} (hd : getH h d = none) (n : Nat) : getH (delH (setH h d y) d) n = getH h n := by
  rw [getH_delH, getH_setH]
  split
  · rename_i hn; rw [hn, hd]
  · rfl

theorem SLx.ext2 {s s' : TS} {F : TS → Prop} (h : SLx s' F) (ht : ∀ n, getT s'.t n = getT s.t n) (hh : ∀ n, getH s'.h n = getH s.h n) : SLx s F := fun e E w tm a b => h e E w tm (a.heap hh) fun n => by rw [ht]; exact b n

/-- A row that was built, never changed. -/
theorem built_SLx {t : List (Nat × TV)} {h : Heap} {d ver k n : Nat} {l : List TV} {F : TS → Prop} (hd : getH h d = none) (hl : l.length = n * k) (h1 : SLx ⟨(d, .isl l n) :: t, h⟩ F) : SLx ⟨(d, .sl d ver 0 n) :: t, setH h d (ver, ⟨k, l⟩)⟩ F := fun e E w tm H hT => by
  have hb : getH (setH h d (ver, ⟨k, l⟩)) d = some (ver, ⟨k, l⟩) := by rw [getH_setH, if_pos rfl]
  obtain ⟨s2, E2, k1, k2, k3⟩ := h1 e _ w tm ((H.frz d).heap fun x => (getH_del_set hd x).symm) fun x => by
    have hx := hT x
    simp only [getT] at hx ⊢
    split
    · rename_i hxd
      rw [if_pos hxd] at hx
      have := RV_frz H hb _ _ hx
      simp only [frzT, and_self, if_true, List.drop_zero] at this
      rw [List.take_of_length_le (by omega)] at this
      have e0 : (if k = 0 then if n = 0 then [] else l else l) = l := by
        by_cases hk : k = 0
        · subst hk
          have : l = [] := List.eq_nil_of_length_eq_zero (by simpa using hl)
          simp [this]
        · rw [if_neg hk]
      rw [e0] at this
      exact this
    · rename_i hxd
      rw [if_neg hxd] at hx
      exact RV.mono (H.le_frz d) _ _ hx
  exact ⟨s2, E2, k1, (H.le_frz d).trans k2, k3⟩

theorem fillT_len {place : Nat → Option (Nat × Nat)} {parts : List (Nat × TV)} {cells l : List TV} (h : fillT place cells parts = some l) : l.length = cells.length := fillT_length parts cells l h

theorem qop_eff {s : TS} {ev : Operand → TV} {op : Op} (h : isEff op = true) : qop P s ev op = none := by
  unfold isEff at h
  split at h
  · rfl
  · unfold qop; rfl
  · unfold qop; rfl
  · rfl
  · rfl
  · rfl
  · rfl
  · cases h
theorem stripS_nil (s : TS) : stripS [] s = s := by
  cases s; simp [stripS, stripL]
theorem stepT_intro {o : Oper} {s : TS} {K : TS → Prop} {gs : List Bool} (hg : guardsOf ops s.t o = some gs)
    (h : (∃ p, qop P s (fun x => stripL gs (s.ev x)) o.op = some p ∧ impL gs p.1 ∧ K (s.to o.dst (optL gs p.2) s.h)) ∨
      (qop P s (fun x => stripL gs (s.ev x)) o.op = none ∧ guardE (allB gs) (effT P (o.dst.getD 0) o.op (stripS gs s) fun r h => K (s.to o.dst r h)) (K (s.to o.dst (optL gs .any) s.h)))) : stepT P ops o s K := by
  unfold guardsOf at hg
  unfold stepT
  split at hg
  · rename_i hgn
    rw [hgn]
    cases hg
    simp only
    rcases h with ⟨p, h1, h2, h3⟩ | ⟨h1, h2⟩
    · rw [show qop P s s.ev o.op = some p from h1]
      exact ⟨h2, h3⟩
    · rw [show qop P s s.ev o.op = none from h1]
      simp only [stripS_nil, allB, guardE_true] at h2
      exact h2
  · rename_i j want hgn
    rw [hgn]
    simp only [hg]
    rcases h with ⟨p, h1, h2, h3⟩ | ⟨h1, h2⟩
    · rw [h1]
      exact ⟨h2, h3⟩
    · rw [h1]
      exact h2

theorem guardsOf_congr {t t' : List (Nat × TV)} {o : Oper} (hr : ∀ n ∈ reads ops o, getT t n = getT t' n) : guardsOf ops t o = guardsOf ops t' o := by
  unfold guardsOf
  split
  · rfl
  · rename_i j want hg
    have : ((ops[j]?).bind (·.dst)).map (getT t) = ((ops[j]?).bind (·.dst)).map (getT t') := by
      cases hj : (ops[j]?).bind (·.dst) with
      | none => rfl
      | some n =>
        simp only [Option.map_some]
        rw [hr n (List.mem_append_right _ (by simp [hg, hj]))]
    rw [this]

theorem optL_any {E : Env} {y : Value} : ∀ gs : List Bool, allB gs = false → RV E (optL gs .any) y → y = undef
  | [], hf, _ => by cases hf
  | g :: l, hf, hy => by
    simp only [optL, RV] at hy
    cases g with
    | false => exact hy.2 rfl
    | true => exact optL_any l (by simpa [allB] using hf) (hy.1 rfl)

/-- One slot known otherwise. -/
theorem SLx.slot {s : TS} {d : Nat} {R R' : TV} {h : Heap} {F : TS → Prop} (hR : ∀ (E : Env) (y : Value), RV E R' y → RV E R y) (hF : SLx ⟨(d, R) :: s.t, h⟩ F) : SLx ⟨(d, R') :: s.t, h⟩ F := fun e E w tm a b => hF e E w tm a fun n => by
  have := b n
  simp only [getT] at this ⊢
  split
  · rename_i hn; rw [if_pos hn] at this; exact hR _ _ this
  · rename_i hn; rw [if_neg hn] at this; exact this

theorem chStep_stepT {o : Oper} {d : Nat} {t t' : List (Nat × TV)} {J J' : X → Prop} {v : TV} {x : X} {F : TS → Prop} (hd : o.dst = some d) (hr : ∀ n ∈ reads ops o, getT t n = getT t' n)
    (h : chStep P ops g x0 o J t fun t2 J2 => t2 = (o.dst.getD 0, v) :: t ∧ J2 = J') (hJ : isEff o.op = true → J x) (hF : ∀ y, (isEff o.op = true → J' y) → (isEff o.op = false → y = x) → SLx ⟨(d, v) :: t', g y⟩ F) :
    (isEff o.op = false → J' = J) ∧ stepT P ops o ⟨t', g x⟩ fun s1 => SLx s1 F := by
  have hev : ∀ (y y' : X) (z : Operand), z ∈ opnds o.op → (⟨t, g y⟩ : TS).ev z = (⟨t', g y'⟩ : TS).ev z := fun y y' z hz => by
    cases z with
    | tmp n => exact hr n (List.mem_append_left _ (List.mem_filterMap.2 ⟨.tmp n, hz, rfl⟩))
    | const v => rfl
    | global g => rfl
    | func f => rfl
  have hto : ∀ r h, (⟨t', g x⟩ : TS).to o.dst r h = ⟨(d, r) :: t', h⟩ := fun r h => by simp [TS.to, hd]
  have hdd : o.dst.getD 0 = d := by simp [hd]
  unfold chStep at h
  split at h
  · exact h.elim
  · rename_i gs hgs
    rw [guardsOf_congr hr] at hgs
    split at h
    · rename_i p hq
      obtain ⟨h1, h2, h3, h4, h5, h6⟩ := h
      refine ⟨fun _ => h6.symm, ?_⟩
      have hv : v = optL gs p.2 := by
        rw [List.cons.injEq, Prod.mk.injEq] at h5; exact h5.1.2.symm
      have hq2 : qopB P ⟨t', g x⟩ (fun z => stripL gs ((⟨t', g x⟩ : TS).ev z)) o.op = some p := by
        rw [← h3 x]
        exact qopB_congr (s := ⟨t', g x⟩) (s' := ⟨t, g x⟩) (ev := fun z => stripL gs ((⟨t', g x⟩ : TS).ev z)) rfl fun z hz => by rw [← hev x0 x z hz]
      have hFx : SLx ⟨(d, v) :: t', g x⟩ F := hF x (fun hh => by rw [h1] at hh; cases hh) fun _ => rfl
      by_cases hb : ∃ t n ps, o.op = .buildSlice t n ps
      · obtain ⟨tt, n, ps, hop⟩ := hb
        simp only [hop, qopB, frzSlice] at hq2
        split at hq2
        · rename_i k hk
          split at hq2
          · rename_i l hl
            cases hq2
            refine stepT_intro hgs (.inr ⟨by rw [hop]; rfl, guardE_fork (fun hg => ?_) fun hg => ?_⟩)
            · have hc := impL_of h2 hg
              have hfr : getH (g x) d = none := by have := h4 x; rw [hop, hdd] at this; exact this
              rw [hop]
              simp only [effT, buildSliceT, hk]
              have e1 : ps.toList.map (fun q => (q.1, (stripS gs ⟨t', g x⟩).ev q.2)) = ps.toList.map fun q => (q.1, stripL gs ((⟨t', g x⟩ : TS).ev q.2)) := List.map_congr_left fun q _ => by rw [stripS_ev]
              rw [e1, hl]
              refine ⟨hc.2, fun ver => ?_⟩
              rw [hto, hdd]
              refine built_SLx hfr (by rw [fillT_len hl]; simp) (SLx.slot (s := ⟨t', g x⟩) (fun E y hy => ?_) hFx)
              rw [hv]
              exact RV_optL (fun _ => hy) fun hf => by rw [hg] at hf; cases hf
            · rw [hto]
              refine SLx.slot (s := ⟨t', g x⟩) (fun E y hy => ?_) hFx
              rw [hv]
              exact RV_optL (fun hf => by rw [hg] at hf; cases hf) fun _ => optL_any gs hg hy
          · cases hq2
        · cases hq2
      · refine stepT_intro hgs (.inl ⟨p, ?_, h2, ?_⟩)
        · unfold qopB at hq2
          split at hq2
          · rename_i tt n ps hop; exact (hb ⟨tt, n, ps, hop⟩).elim
          · exact hq2
        · rw [hto, ← hv]; exact hFx
    · rename_i hq
      obtain ⟨h1, R, J2, h2, h3, h4⟩ := h
      refine ⟨fun hh => (by rw [h1] at hh; cases hh), ?_⟩
      obtain ⟨h5, h6⟩ := h4 _ rfl
      have hv : v = optL gs R := by
        rw [List.cons.injEq, Prod.mk.injEq] at h5; exact h5.1.2.symm
      subst h6
      have hqn : qop P ⟨t', g x⟩ (fun z => stripL gs ((⟨t', g x⟩ : TS).ev z)) o.op = none := by
        exact qop_eff h1
      refine stepT_intro hgs (.inr ⟨hqn, guardE_fork (fun hg => ?_) fun hg => ?_⟩)
      · refine effT_K (K := fun r h => r = R ∧ ∃ y, h = g y ∧ J2 y) (fun r h ⟨e1, y, e2, e3⟩ => ?_) (effT_congr (s := stripS gs ⟨t, g x⟩) rfl h1 (fun z hz => by rw [stripS_ev, stripS_ev, hev x x z hz]) (impL_of h2 hg x (hJ h1)))
        subst e1 e2
        rw [hto]
        refine SLx.slot (s := ⟨t', g x⟩) (fun E z hz => ?_) (hF y (fun _ => e3) fun hh => by simp [h1] at hh)
        rw [hv]
        exact RV_optL (fun _ => hz) fun hf => by rw [hg] at hf; cases hf
      · rw [hto]
        refine SLx.slot (s := ⟨t', g x⟩) (fun E y hy => ?_) (hF x (fun _ => h3 hg x (hJ h1)) fun hh => by simp [h1] at hh)
        rw [hv]
        exact RV_optL (fun hf => by rw [hg] at hf; cases hf) fun _ => optL_any gs hg hy

theorem dst_uni {n : Nat} (hB : quietB ops n = true) : ∀ a b, a < n → b < n → dstAt ops a = dstAt ops b → a = b := fun a b ha hb hab => by
  have hBb := List.all_eq_true.1 hB b (by simpa using hb)
  cases hob : ops[b]? with
  | none => simp [hob] at hBb
  | some ob =>
    simp only [hob, Bool.and_eq_true, List.all_eq_true, List.mem_range, Bool.or_eq_true, decide_eq_true_eq] at hBb
    rcases hBb.2 a ha with h | h
    · exact h
    · exact (h hab).elim
theorem reads_agree {t : List (Nat × TV)} {val : Nat → TV} {n : Nat} (hB : quietB ops n = true) {D : Nat → Bool} {i : Nat} {o : Oper} (hin : i < n) (ho : ops[i]? = some o) (hall : ∀ e ∈ o.after, Region.binds .any e = true → D e.on = true) :
    ∀ x ∈ reads ops o, getT (tAt ops val t (List.range i).reverse) x = getT (tAt ops val t ((List.range n).reverse.filter D)) x := fun x hx => by
  have hBi := List.all_eq_true.1 hB i (by simpa using hin)
  simp only [ho, Bool.and_eq_true, List.all_eq_true, List.mem_range, Bool.or_eq_true, decide_eq_true_eq, Array.any_eq_true'] at hBi
  obtain ⟨⟨hd, hrd⟩, huni⟩ := hBi
  have uni := dst_uni hB
  by_cases hex : ∃ j, j < n ∧ dstAt ops j = x
  · obtain ⟨j, hj, hjx⟩ := hex
    rcases hrd x hx j hj with h | ⟨hji, e, he, hb, hej⟩
    · exact (h hjx).elim
    · have hDj : D j = true := hej ▸ hall e he hb
      rw [getT_tAt (j := j) (by simp [hji]) hjx (fun k hk hkx => uni k j (by simp at hk; omega) hj (hkx.trans hjx.symm)), getT_tAt (j := j) (by simp [hj, hDj]) hjx (fun k hk hkx => uni k j (by simp at hk; omega) hj (hkx.trans hjx.symm))]
  · have hno : ∀ k, k < n → dstAt ops k ≠ x := fun k hk hkx => hex ⟨k, hk, hkx⟩
    rw [getT_tAt_no (fun k hk => hno k (by simp at hk; omega)), getT_tAt_no (fun k hk => hno k (by simp at hk; omega))]
theorem put_agree {t : List (Nat × TV)} {val : Nat → TV} {n : Nat} (hB : quietB ops n = true) {D : Nat → Bool} {i d : Nat} (hin : i < n) (hdi : dstAt ops i = d) (x : Nat) :
    getT (tAt ops val t ((List.range n).reverse.filter (doneAt D i))) x = getT ((d, val i) :: tAt ops val t ((List.range n).reverse.filter D)) x := by
  have uni := dst_uni hB
  simp only [getT]
  by_cases hx : x = d
  · subst hx
    rw [if_pos rfl]
    exact getT_tAt (j := i) (by simp [hin, doneAt]) hdi (fun k hk hkx => uni k i (by simp at hk; omega) hin (hkx.trans hdi.symm))
  · rw [if_neg hx]
    by_cases hex : ∃ j, j < n ∧ dstAt ops j = x ∧ D j = true
    · obtain ⟨j, hj, hjx, hDj⟩ := hex
      rw [getT_tAt (j := j) (by simp [hj, doneAt, hDj]) hjx (fun k hk hkx => uni k j (by simp at hk; omega) hj (hkx.trans hjx.symm)), getT_tAt (j := j) (by simp [hj, hDj]) hjx (fun k hk hkx => uni k j (by simp at hk; omega) hj (hkx.trans hjx.symm))]
    · rw [getT_tAt_no (fun k hk hkx => ?_), getT_tAt_no (fun k hk hkx => ?_)]
      · simp at hk; exact hex ⟨k, hk.1, hkx, hk.2⟩
      · simp only [List.mem_filter, List.mem_reverse, List.mem_range, doneAt] at hk
        by_cases hki : k = i
        · subst hki; exact hx (hkx.symm.trans hdi)
        · rw [if_neg hki] at hk; exact hex ⟨k, hk.1, hkx, hk.2⟩

theorem chT_parts {t : List (Nat × TV)} {n : Nat} (hB : quietB ops n = true) (hC : chainB ops n = true) {J0 : X → Prop} {K : List (Nat × TV) → (X → Prop) → Prop} (hn : n ≤ ops.size) (hc : chT P ops g x0 (ops.toList.take n) J0 t K) :
    ∃ F : (Nat → Bool) → TS → Prop, (∀ x, J0 x → SLx ⟨t, g x⟩ (F fun _ => false)) ∧
      (∀ D s', F D s' → ∀ i o, ops[i]? = some o → i < n → D i = false → (∀ e ∈ o.after, Region.binds .any e = true → D e.on = true) → stepT P ops o s' fun s'' => SLx s'' (F (doneAt D i))) ∧
      ∃ t' J', K t' J' ∧ ∀ D s', (∀ i, i < n → D i = true) → F D s' → ∃ x, J' x ∧ s' = ⟨t', g x⟩ := by
  have hds : ∀ (i : Nat) (o : Oper), i < n → ops[i]? = some o → o.dst.isSome = true := fun i o hi ho => by
    have := List.all_eq_true.1 hB i (by simpa using hi)
    simp only [ho, Bool.and_eq_true] at this
    exact this.1.1
  obtain ⟨val, Jat, -, hJ0, h2, h3⟩ := chain_vals (P := P) (ops := ops) (g := g) (x0 := x0) (t := t) (K := K) (ops.toList.take n) 0 (fun _ => .any) (fun _ => J0) (fun i o hi => by
    rw [Nat.zero_add]
    rw [List.getElem?_take] at hi
    split at hi
    · rename_i hlt
      have ho : ops[i]? = some o := by simpa using hi
      exact ⟨ho, hds i o hlt ho⟩
    · cases hi) (by simpa [tAt] using hc)
  have hlen : (ops.toList.take n).length = n := by simp [hn]
  rw [hlen, Nat.zero_add] at h2
  have h3' : ∀ i o, i < n → ops[i]? = some o → chStep P ops g x0 o (Jat i) (tAt ops val t (List.range i).reverse) fun t2 J2 => t2 = (o.dst.getD 0, val i) :: tAt ops val t (List.range i).reverse ∧ J2 = Jat (i + 1) := fun i o hi ho => by
    have := h3 i o (by rw [List.getElem?_take, if_pos hi]; simpa using ho)
    rwa [Nat.zero_add] at this
  let eff : Nat → Prop := fun i => ∃ o, ops[i]? = some o ∧ isEff o.op = true
  have hquiet : ∀ i o, i < n → ops[i]? = some o → isEff o.op = false → Jat (i + 1) = Jat i := fun i o hi ho he => by
    have hst := h3' i o hi ho
    unfold chStep at hst
    split at hst
    · exact hst.elim
    · split at hst
      · exact hst.2.2.2.2.2.symm
      · rw [he] at hst; cases hst.1
  have hsame : ∀ d i, i + d ≤ n → (∀ j, i ≤ j → j < i + d → ¬ eff j) → Jat (i + d) = Jat i := fun d => by
    induction d with
    | zero => intro i _ _; rfl
    | succ d ih =>
      intro i hi hno
      have hlt : i + d < ops.size := by omega
      rw [show i + (d + 1) = (i + d) + 1 by omega, hquiet (i + d) ops[i + d] (by omega) (Array.getElem?_eq_getElem hlt) ?_, ih i (by omega) fun j h1 h2 => hno j h1 (by omega)]
      cases he : isEff ops[i + d].op with
      | false => rfl
      | true => exact (hno (i + d) (by omega) (by omega) ⟨_, Array.getElem?_eq_getElem hlt, he⟩).elim
  obtain ⟨c, hcc⟩ : ∃ c, c = leTab ops := ⟨_, rfl⟩
  unfold chainB at hC
  rw [← hcc] at hC
  refine ⟨fun D s' => (∀ j p, D j = true → leAt c j = p + 1 → D p = true) ∧ ∃ k x, k ≤ n ∧ (∀ j, j < k → eff j → D j = true) ∧ (∀ j, k ≤ j → j < n → eff j → D j = false) ∧ Jat k x ∧ s' = stAt ops val t (g x) n D, fun x hx => SLx.ext ⟨fun j p hj => (by cases hj), 0, x, Nat.zero_le _, fun j hj => by omega, fun j _ _ _ => rfl, by rw [hJ0 0 (Nat.le_refl _)]; exact hx, rfl⟩ (fun m => by
    show getT (tAt ops val t ((List.range n).reverse.filter fun _ => false)) m = _
    rw [show (List.range n).reverse.filter (fun _ => false) = [] by simp]; rfl) rfl, ?_, _, _, h2, ?_⟩
  · rintro D s' ⟨hinv, k, x, hk, hk1, hk2, hJk, rfl⟩ i o ho hin hD hall
    obtain ⟨d, hd⟩ := Option.isSome_iff_exists.1 (hds i o hin ho)
    have hdi : dstAt ops i = d := by simp [dstAt, ho, hd]
    have effAt_of : ∀ {j}, eff j → effAt ops j = true := fun {j} ⟨oj, h1, h2⟩ => by simp only [effAt, h1]; exact h2
    have of_effAt : ∀ {j}, effAt ops j = true → eff j := fun {j} h => by
      unfold effAt at h
      split at h
      · rename_i oj hoj; exact ⟨oj, hoj, h⟩
      · cases h
    have hCi0 := List.all_eq_true.1 hC i (by simpa using hin)
    simp only [ho, Bool.and_eq_true, Bool.or_eq_true, decide_eq_true_eq] at hCi0
    have hCn : ∀ p, leAt c i = p + 1 → effAt ops p = true ∧ p < n := fun p hp => by
      rcases hCi0.1 with h | h
      · omega
      · rw [hp, Nat.add_sub_cancel] at h; exact ⟨h.1.1, h.1.2⟩
    have hCi : ∀ p, leAt c i = p + 1 → D p = true := fun p hp => by
      rcases hCi0.1 with h | h
      · omega
      · obtain ⟨e, he1, he2⟩ := Array.any_eq_true'.1 h.2
        simp only [Bool.and_eq_true, Bool.or_eq_true, decide_eq_true_eq] at he2
        have hDe := hall e he1 he2.1
        rcases he2.2 with h3 | h3
        · have : e.on = p := by omega
          rw [← this]; exact hDe
        · exact hinv e.on p hDe (by omega)
    have hCe : isEff o.op = true → ∀ j, j < i → effAt ops j = true → j < leAt c i := fun he j hji hej => by
      rcases hCi0.2 with h | h
      · rw [he] at h; cases h
      · have := List.all_eq_true.1 h j (by simpa using hji)
        simp only [hej, Bool.not_true, Bool.false_or, decide_eq_true_eq] at this
        exact this
    have hinv2 : ∀ j p, doneAt D i j = true → leAt c j = p + 1 → doneAt D i p = true := fun j p hj hp => by
      simp only [doneAt] at hj ⊢
      split
      · rfl
      · split at hj
        · rename_i hji; rw [hji] at hp; exact hCi p hp
        · exact hinv j p hj hp
    have hno : isEff o.op = true → k ≤ i ∧ ∀ j, k ≤ j → j < i → ¬ eff j := fun he => by
      refine ⟨?_, fun j hkj hji hej => ?_⟩
      · by_cases hki : k ≤ i
        · exact hki
        · have := hk1 i (by omega) ⟨o, ho, he⟩
          rw [hD] at this; cases this
      · have hlt := hCe he j hji (effAt_of hej)
        obtain ⟨p, hp⟩ : ∃ p, leAt c i = p + 1 := ⟨leAt c i - 1, by omega⟩
        have hDp := hCi p hp
        have := hk2 p (by omega) (hCn p hp).2 (of_effAt (hCn p hp).1)
        rw [hDp] at this
        cases this
    refine (chStep_stepT (x := x) (J' := Jat (i + 1)) (v := val i) hd (reads_agree hB hin ho hall) (h3' i o hin ho) (fun he => ?_) fun y hy1 hy2 => ?_).2
    · have := hsame (i - k) k (by omega) fun j h1 h2 => (hno he).2 j h1 (by have := (hno he).1; omega)
      rw [show k + (i - k) = i by have := (hno he).1; omega] at this
      rw [this]; exact hJk
    · cases he : isEff o.op with
      | true =>
        refine SLx.ext (s' := stAt ops val t (g y) n (doneAt D i)) ⟨hinv2, i + 1, y, by omega, fun j hj hej => ?_, fun j hj hjn hej => ?_, hy1 he, rfl⟩ (fun m => put_agree hB hin hdi m) rfl
        · simp only [doneAt]
          split
          · rfl
          · by_cases hjk : j < k
            · exact hk1 j hjk hej
            · exact ((hno he).2 j (by omega) (by omega) hej).elim
        · simp only [doneAt]
          rw [if_neg (by omega)]
          exact hk2 j (by have := (hno he).1; omega) hjn hej
      | false =>
        obtain rfl := hy2 he
        have hni : ∀ j, eff j → j ≠ i := fun j ⟨oj, hoj, hej⟩ hji => by
          subst hji
          rw [ho] at hoj
          cases hoj
          rw [he] at hej; cases hej
        refine SLx.ext (s' := stAt ops val t (g y) n (doneAt D i)) ⟨hinv2, k, y, hk, fun j hj hej => ?_, fun j hj hjn hej => ?_, hJk, rfl⟩ (fun m => put_agree hB hin hdi m) rfl
        · simp only [doneAt]; rw [if_neg (hni j hej)]; exact hk1 j hj hej
        · simp only [doneAt]; rw [if_neg (hni j hej)]; exact hk2 j hj hjn hej
  · rintro D s' hall ⟨hinv, k, x, hk, hk1, hk2, hJk, rfl⟩
    refine ⟨x, ?_, ?_⟩
    · rw [show n = k + (n - k) by omega, hsame (n - k) k (by omega) fun j h1 h2 he => ?_]
      · exact hJk
      · have := hk2 j h1 (by omega) he
        rw [hall j (by omega)] at this
        cases this
    · have : (List.range n).reverse.filter D = (List.range n).reverse := List.filter_eq_self.2 fun i hi => hall i (by simpa using hi)
      simp only [stAt, this]

/-- A DRAWN REGION, with a chain of operations that change memory: memory is g x for an x of which J says more and more. -/
theorem draw_chain {s : TS} {K : TS → Prop} {X : Type} (g : X → Heap) (J0 : X → Prop) (x0 : X) (hJ : J0 x0) (hs : s.h = g x0) (hm : P.follows .mixedOrders = true) (hedge : edgesOk ops = true) (hB : quietB ops ops.size = true) (hC : chainB ops ops.size = true)
    (h : chT P ops g x0 ops.toList J0 s.t fun t J => ∀ x, J x → K ⟨t, g x⟩) : drawT P ops s K := by
  obtain ⟨F, f1, f2, t', J', f3, f4⟩ := chT_parts (n := ops.size) hB hC (Nat.le_refl _) (by rw [show ops.toList.take ops.size = ops.toList from List.take_of_length_le (by simp)]; exact h)
  refine draw_F hm hedge F (SLx.ext2 (f1 x0 hJ) (fun _ => rfl) (fun _ => by rw [hs])) (fun D s' hF i o ho hD hall => f2 D s' hF i o ho (Array.getElem?_eq_some_iff.1 ho).1 hD hall) fun D s' hall hF => ?_
  obtain ⟨x, hx, rfl⟩ := f4 D s' hall hF
  exact f3 x hx

/-- The same, the last operation waits for all others and does what it will. -/
theorem draw_chainl {s : TS} {K : TS → Prop} {X : Type} (g : X → Heap) (J0 : X → Prop) (x0 : X) (hJ : J0 x0) (hs : s.h = g x0) (hm : P.follows .mixedOrders = true) (hedge : edgesOk ops = true) (hB : quietB ops (ops.size - 1) = true) (hC : chainB ops (ops.size - 1) = true) (hL : lastB ops = true)
    (h : chT P ops g x0 (ops.toList.take (ops.size - 1)) J0 s.t fun t J => ∀ x, J x → lastT P ops K ⟨t, g x⟩) : drawT P ops s K := by
  have hpos : 0 < ops.size := by
    unfold lastB at hL
    split at hL
    · rename_i o ho; have := (Array.getElem?_eq_some_iff.1 ho).1; omega
    · cases hL
  obtain ⟨F, f1, f2, t', J', f3, f4⟩ := chT_parts (n := ops.size - 1) hB hC (by omega) h
  refine draw_F hm hedge (fun D s' => (D (ops.size - 1) = false ∧ F D s') ∨ ((∀ j, j < ops.size → D j = true) ∧ K s')) (SLx.ext2 (s' := ⟨s.t, g x0⟩) (fun e E w tm a b => ?_) (fun _ => rfl) (fun _ => by rw [hs])) (fun D s' hF i o ho hD hall => ?_) fun D s' hall hF => ?_
  · obtain ⟨s2, E2, k1, k2⟩ := f1 x0 hJ e E w tm a b
    exact ⟨s2, E2, .inl ⟨rfl, k1⟩, k2⟩
  · have hi := (Array.getElem?_eq_some_iff.1 ho).1
    rcases hF with ⟨hF1, hF2⟩ | ⟨hF1, _⟩
    · by_cases hil : i = ops.size - 1
      · have hallD : ∀ j, j < ops.size - 1 → D j = true := fun j hj => by
          unfold lastB at hL
          rw [← hil, ho] at hL
          simp only [List.all_eq_true, List.mem_range, Bool.and_eq_true, decide_eq_true_eq, Array.any_eq_true'] at hL
          obtain ⟨e, he, hb, hej⟩ := hL j (by omega)
          exact hej ▸ hall e he hb
        obtain ⟨x, hx, rfl⟩ := f4 D s' hallD hF2
        have h2 := f3 x hx
        unfold lastT at h2
        rw [← hil, ho] at h2
        exact stepT_K (fun s' hs' => SLx.done (.inr ⟨fun j hj => by simp only [doneAt]; split; rfl; exact hallD j (by omega), hs'⟩)) h2
      · refine stepT_K (fun s' hs' e E w tm a b => ?_) (f2 D s' hF2 i o ho (by omega) hD hall)
        obtain ⟨s2, E2, k1, k2⟩ := hs' e E w tm a b
        exact ⟨s2, E2, .inl ⟨by simp only [doneAt]; rw [if_neg (Ne.symm hil)]; exact hF1, k1⟩, k2⟩
    · rw [hF1 i hi] at hD; cases hD
  · rcases hF with ⟨hF1, _⟩ | ⟨_, hk⟩
    · rw [hall _ (by omega)] at hF1; cases hF1
    · exact hk
/-- The state seen otherwise first. -/
theorem draw_pre {s : TS} {K : TS → Prop} (h : SLx s fun s' => drawT P ops s' K) : drawT P ops s K := by
  intro nt hdst e E w a H hT hn t
  obtain ⟨s', E', h1, l, H', hT'⟩ := h e E w a.tmps H hT
  refine wpOps_mono (fun ex a' w' hh => ?_) _ _ _ (h1 nt hdst e E' w a H' hT' hn t)
  obtain ⟨h1, s2, E2, k1, k2, k3⟩ := hh
  exact ⟨h1, s2, E2, k1, l.trans k2, k3⟩
end
end Go.Proofs.YtekmhdiajjfgfaaDoor.TL
