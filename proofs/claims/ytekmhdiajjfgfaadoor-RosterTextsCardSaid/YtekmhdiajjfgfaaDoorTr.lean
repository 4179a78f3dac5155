/- Own words, part 16: regions whose order is drawn, of operations that change nothing (but for the last). No program is named here. -/
import Derived.Test.YtekmhdiajjfgfaaDoorTq
namespace Go.Proofs.YtekmhdiajjfgfaaDoor.TL
open Go
set_option linter.unusedVariables false
set_option linter.unusedSimpArgs false

/-- The operands of an operation. -/
def opnds : Op → List Operand
  | .move x | .assign x | .load _ x | .nilCheck x | .unOp _ _ x | .convert _ _ x | .extract x _ | .makeInterface _ x | .fieldAddr _ x _ | .field _ x _ => [x]
  | .pick c a b => [c, a, b]
  | .build _ ps | .buildSlice _ _ ps => ps.toList.map (·.2)
  | .store _ a x => [a, x]
  | .box _ x => [x]
  | .binOp _ _ x y _ => [x, y]
  | .slice _ x lo hi none => x :: (lo.toList ++ hi.toList)
  | .slice _ x (some lo) (some hi) (some m) => [x, lo, hi, m]
  | .indexAddr _ x i | .index _ x i => [x, i]
  | .call { callee := .builtin _, args, .. } => args.toList
  | .call { callee := .value f, args, .. } => f :: args.toList
  | _ => []

section
variable {P : Program} {ops : Array Oper}

theorem qop_congr {s s' : TS} {ev ev' : Operand → TV} {op : Op} (hh : s.h = s'.h) (h : ∀ x ∈ opnds op, ev x = ev' x) : qop P s ev op = qop P s' ev' op := by
  unfold qop
  split <;> simp only [opnds, List.mem_cons, List.mem_append, List.not_mem_nil, or_false, forall_eq_or_imp, forall_eq, Option.mem_toList] at h <;> try (simp only [h]; done)
  · congr 2
    exact List.map_congr_left fun p hp => by rw [h _ (List.mem_map.2 ⟨p, hp, rfl⟩)]
  · rw [h]; unfold qload; rw [hh]
  · rw [h]; unfold qconv; rw [hh]
  · rw [h.1]
    congr 1
    rename_i lo hi
    have e1 : Option.map ev lo = Option.map ev' lo := by cases lo with | none => rfl | some x => simp [h.2 x (.inl rfl)]
    have e2 : Option.map ev hi = Option.map ev' hi := by cases hi with | none => rfl | some x => simp [h.2 x (.inr rfl)]
    rw [e1, e2]
    unfold qslice
    rw [hh]
  · split <;> simp_all

/-- A call that leaves all as it is. -/
def callsT (P : Program) (s : TS) (op : Op) (R : TV) : Prop :=
  match op with
  | .call { callee := .value f, args, .. } => funT P (args.toList.map s.ev) s (s.ev f) fun r h => r = R ∧ h = s.h
  | _ => False
def sameH (a b : Heap) : Prop := a = b
theorem sameH_go {a : Heap} {C : Heap → Prop} (h : C a) : ∀ h', sameH h' a → C h' := fun h' e => by unfold sameH at e; subst e; exact h

/-- An operation that changes nothing. -/
def qstepT (P : Program) (ops : Array Oper) (o : Oper) (s : TS) (K : TV → Heap → Prop) : Prop :=
  match o.guard with
  | none => match qop P s s.ev o.op with
    | some p => p.1 ∧ K p.2 s.h
    | none => ∃ R, callsT P s o.op R ∧ ∀ h', sameH h' s.h → K R h'
  | some (j, want) => match (((ops[j]?).bind (·.dst)).map (getT s.t)).bind (guardOf want) with
    | some gs => match qop P s (fun x => stripL gs (s.ev x)) o.op with
      | some p => impL gs p.1 ∧ K (optL gs p.2) s.h
      | none => ∃ R, impL gs (callsT P (stripS gs s) o.op R) ∧ ∀ h', sameH h' s.h → K (optL gs R) h'
    | none => False
def quietT (P : Program) (ops : Array Oper) : List Oper → TS → (TS → Prop) → Prop
  | [], s, K => K s
  | o :: l, s, K => qstepT P ops o s fun v h => quietT P ops l ⟨(o.dst.getD 0, v) :: s.t, h⟩ K

theorem funT_h {args : List TV} {s s' : TS} {f : TV} {K : TV → Heap → Prop} (hh : s.h = s'.h) (h : funT P args s f K) : funT P args s' f K := by
  have e1 : ∀ s : TS, funT P args s f K = funT P args ⟨[], s.h⟩ f K := fun s => by unfold funT; rfl
  rw [e1] at h ⊢
  rw [← hh]
  exact h
theorem callsT_congr {s s' : TS} {op : Op} {R : TV} (hh : s.h = s'.h) (hx : ∀ x ∈ opnds op, s.ev x = s'.ev x) (h : callsT P s op R) : callsT P s' op R := by
  unfold callsT at h ⊢
  split
  · rename_i f args _
    simp only [opnds, List.mem_cons, forall_eq_or_imp] at hx
    simp only at h
    rw [← hx.1, ← hh, ← List.map_congr_left hx.2]
    exact funT_h hh h
  · rename_i hno
    split at h
    · exact (hno _ _ _ rfl).elim
    · exact h
theorem funT_mono {args : List TV} {s : TS} {f : TV} {K K' : TV → Heap → Prop} (hk : ∀ r h, K r h → K' r h) (h : funT P args s f K) : funT P args s f K' := by
  unfold funT at h ⊢
  split at h
  · exact ⟨h.1, h.2.1, h.2.2.mono fun r h hr => VLx.done (hk r h hr)⟩
  · exact h.mono fun r h hr => VLx.done (hk r h hr)
  · exact h.elim
theorem effT_of_calls {d : Nat} {s : TS} {op : Op} {R : TV} {K : TV → Heap → Prop} (h : callsT P s op R) (hK : K R s.h) : effT P d op s K := by
  unfold callsT at h
  split at h
  · exact funT_mono (fun r h ⟨e1, e2⟩ => by subst e1 e2; exact hK) h
  · exact h.elim
theorem stripS_ev (gs : List Bool) (s : TS) (x : Operand) : (stripS gs s).ev x = stripL gs (s.ev x) := by
  have hv : ∀ (gs : List Bool) (x : TV), (∀ g y, x ≠ .opt g y) → stripL gs x = x := fun gs x hx => by
    induction gs with
    | nil => rfl
    | cons g l ih =>
      have e : strip g x = x := by
        unfold strip
        split
        · rename_i g' y
          exact absurd rfl (hx g' y)
        · rfl
      simpa [stripL, e] using ih
  cases x with
  | tmp t => exact getT_strip gs t s.t
  | const v => exact (hv gs _ (fun _ _ h => by cases h)).symm
  | global g =>
    refine (hv gs _ fun g' y h => ?_).symm
    simp only [TS.ev] at h
    split at h <;> cases h
  | func f => exact (hv gs _ (fun _ _ h => by cases h)).symm

theorem qstepT_get {o : Oper} {s : TS} {K : TV → Heap → Prop} (h : qstepT P ops o s K) : ∃ v, K v s.h ∧ qstepT P ops o s fun x _ => x = v := by
  unfold qstepT at h
  split at h
  · rename_i hg
    split at h
    · rename_i p hq
      exact ⟨p.2, h.2, by unfold qstepT; rw [hg]; simp only [hq]; exact ⟨h.1, trivial⟩⟩
    · rename_i hq
      obtain ⟨R, h1, h2⟩ := h
      exact ⟨R, h2 _ rfl, by unfold qstepT; rw [hg]; simp only [hq]; exact ⟨R, h1, fun _ _ => rfl⟩⟩
  · rename_i j want hg
    split at h
    · rename_i gs hb
      split at h
      · rename_i p hq
        exact ⟨optL gs p.2, h.2, by unfold qstepT; rw [hg]; simp only [hb, hq]; exact ⟨h.1, trivial⟩⟩
      · rename_i hq
        obtain ⟨R, h1, h2⟩ := h
        exact ⟨optL gs R, h2 _ rfl, by unfold qstepT; rw [hg]; simp only [hb, hq]; exact ⟨R, h1, fun _ _ => rfl⟩⟩
    · exact h.elim

/-- The temporaries an operation reads. -/
def reads (ops : Array Oper) (o : Oper) : List Nat :=
  (opnds o.op).filterMap (fun x => match x with | .tmp t => some t | _ => none) ++ match o.guard with | some (j, _) => (((ops[j]?).bind (·.dst))).toList | none => []

theorem qstepT_stepT {o : Oper} {d : Nat} {s s' : TS} {v : TV} (hd : o.dst = some d) (hh : s.h = s'.h) (hr : ∀ x ∈ reads ops o, getT s.t x = getT s'.t x) (h : qstepT P ops o s fun x _ => x = v) {F : TS → Prop} (hK : SLx ⟨(d, v) :: s'.t, s'.h⟩ F) : stepT P ops o s' fun s1 => SLx s1 F := by
  have hK2 : ∀ x, x = s'.h → SLx (s'.to o.dst v x) F := fun x e => by subst e; simpa [TS.to, hd] using hK
  have hx : ∀ x ∈ opnds o.op, s.ev x = s'.ev x := fun x hx => by
    cases x with
    | tmp t => exact hr t (List.mem_append_left _ (List.mem_filterMap.2 ⟨.tmp t, hx, rfl⟩))
    | const v => rfl
    | global g => rfl
    | func f => rfl
  unfold qstepT at h
  split at h
  · rename_i hg
    rw [qop_congr hh hx] at h
    unfold stepT
    rw [hg]
    simp only
    split at h
    · rename_i p hq
      obtain ⟨h1, rfl⟩ := h
      simp only [hq]
      exact ⟨h1, hK2 _ rfl⟩
    · rename_i hq
      obtain ⟨R, h1, h2⟩ := h
      obtain rfl := h2 _ rfl
      simp only [hq]
      exact effT_of_calls (callsT_congr hh hx h1) (hK2 _ rfl)
  · rename_i j want hg
    have hgd : ((ops[j]?).bind (·.dst)).map (getT s.t) = ((ops[j]?).bind (·.dst)).map (getT s'.t) := by
      cases hj : (ops[j]?).bind (·.dst) with
      | none => rfl
      | some t =>
        simp only [Option.map_some]
        rw [hr t (List.mem_append_right _ (by simp [hg, hj]))]
    rw [hgd] at h
    unfold stepT
    rw [hg]
    simp only
    split at h
    · rename_i gs hb
      have hx2 : ∀ x ∈ opnds o.op, (stripS gs s).ev x = (stripS gs s').ev x := fun x hxm => by rw [stripS_ev, stripS_ev, hx x hxm]
      rw [qop_congr (s' := s') (ev' := fun x => stripL gs (s'.ev x)) hh (fun x hxm => by rw [hx x hxm])] at h
      simp only [hb]
      split at h
      · rename_i p hq
        obtain ⟨h1, rfl⟩ := h
        simp only [hq]
        exact ⟨h1, hK2 _ rfl⟩
      · rename_i hq
        obtain ⟨R, h1, h2⟩ := h
        obtain rfl := h2 _ rfl
        simp only [hq]
        have conv : ∀ R', (∀ (E : Env) (y : Value), RV E R' y → RV E (optL gs R) y) → SLx (s'.to o.dst R' s'.h) F := fun R' hR e E w tm a b => hK2 s'.h rfl e E w tm a fun n => by
          have := b n
          simp only [TS.to, hd, getT] at this ⊢
          split
          · rename_i hn; rw [if_pos hn] at this; exact hR _ _ this
          · rename_i hn; rw [if_neg hn] at this; exact this
        refine guardE_fork (fun hg => ?_) fun hg => ?_
        · exact effT_of_calls (callsT_congr (s := stripS gs s) (s' := stripS gs s') hh hx2 (impL_of h1 hg)) (conv R fun E y hy => RV_optL (fun _ => hy) fun hf => by rw [hg] at hf; cases hf)
        · refine conv _ fun E y hy => RV_optL (fun hf => by rw [hg] at hf; cases hf) fun _ => ?_
          have und : ∀ gs : List Bool, allB gs = false → RV E (optL gs .any) y → y = undef := fun gs => by
            induction gs with
            | nil => intro hf; cases hf
            | cons g l ih =>
              intro hf hy
              simp only [optL, RV] at hy
              cases g with
              | false => exact hy.2 rfl
              | true => exact ih (by simpa [allB] using hf) (hy.1 rfl)
          exact und gs hg hy
    · exact h.elim

/-- Where an operation's answer lies. -/
def dstAt (ops : Array Oper) (i : Nat) : Nat := ((ops[i]?).bind (·.dst)).getD 0
/-- Each of these operations (from the first on, n of them) has a slot of its own and reads only what it waits for. -/
def quietB (ops : Array Oper) (n : Nat) : Bool :=
  (List.range n).all fun i => match ops[i]? with
    | some o => o.dst.isSome && ((reads ops o).all fun x => (List.range n).all fun j => decide (dstAt ops j ≠ x) || (decide (j < i) && o.after.any fun e => Region.binds .any e && decide (e.on = j))) &&
        (List.range n).all fun j => decide (j = i) || decide (dstAt ops j ≠ dstAt ops i)
    | none => false

def tAt (ops : Array Oper) (val : Nat → TV) (t : List (Nat × TV)) (L : List Nat) : List (Nat × TV) := L.map (fun j => (dstAt ops j, val j)) ++ t

theorem getT_tAt {val : Nat → TV} {t : List (Nat × TV)} {x j : Nat} : ∀ {L : List Nat}, j ∈ L → dstAt ops j = x → (∀ i ∈ L, dstAt ops i = x → i = j) → getT (tAt ops val t L) x = val j
  | i :: L, hj, hx, hu => by
    simp only [tAt, List.map_cons, List.cons_append, getT]
    by_cases hi : x = dstAt ops i
    · rw [if_pos hi, hu i List.mem_cons_self hi.symm]
    · rw [if_neg hi]
      refine getT_tAt (L := L) ?_ hx fun k hk => hu k (List.mem_cons_of_mem _ hk)
      rcases List.mem_cons.1 hj with rfl | h
      · exact (hi hx.symm).elim
      · exact h
theorem getT_tAt_no {val : Nat → TV} {t : List (Nat × TV)} {x : Nat} : ∀ {L : List Nat}, (∀ i ∈ L, dstAt ops i ≠ x) → getT (tAt ops val t L) x = getT t x
  | [], _ => rfl
  | i :: L, hu => by
    simp only [tAt, List.map_cons, List.cons_append, getT]
    rw [if_neg (Ne.symm (hu i List.mem_cons_self))]
    exact getT_tAt_no (L := L) fun k hk => hu k (List.mem_cons_of_mem _ hk)
theorem tAt_val {val val' : Nat → TV} {t : List (Nat × TV)} {L : List Nat} (h : ∀ j ∈ L, val j = val' j) : tAt ops val t L = tAt ops val' t L := by
  unfold tAt
  rw [List.map_congr_left fun j hj => by rw [h j hj]]

theorem quiet_vals {t : List (Nat × TV)} {h : Heap} {K : TS → Prop} : ∀ (l : List Oper) (k : Nat) (val : Nat → TV), (∀ i o, l[i]? = some o → ops[k + i]? = some o ∧ o.dst.isSome = true) → quietT P ops l ⟨tAt ops val t (List.range k).reverse, h⟩ K →
    ∃ val', (∀ j, j < k → val' j = val j) ∧ K ⟨tAt ops val' t (List.range (k + l.length)).reverse, h⟩ ∧ ∀ i o, l[i]? = some o → qstepT P ops o ⟨tAt ops val' t (List.range (k + i)).reverse, h⟩ fun x _ => x = val' (k + i)
  | [], k, val, hl, hq => ⟨val, fun _ _ => rfl, hq, fun i o hi => by simp at hi⟩
  | o :: l, k, val, hl, hq => by
    simp only [quietT] at hq
    obtain ⟨v, hq1, hq2⟩ := qstepT_get hq
    obtain ⟨ho, hod⟩ := hl 0 o rfl
    rw [Nat.add_zero] at ho
    have hdst : o.dst.getD 0 = dstAt ops k := by simp [dstAt, ho]
    let val1 : Nat → TV := fun j => if j = k then v else val j
    have e1 : tAt ops val1 t (List.range (k + 1)).reverse = (o.dst.getD 0, v) :: tAt ops val t (List.range k).reverse := by
      rw [List.range_succ, List.reverse_append, List.reverse_singleton, List.singleton_append]
      simp only [tAt, List.map_cons, List.cons_append, hdst, val1, if_true]
      congr 2
      exact List.map_congr_left fun j hj => by rw [if_neg (by simp at hj; omega)]
    obtain ⟨val', h1, h2, h3⟩ := quiet_vals l (k + 1) val1 (fun i o hi => by have := hl (i + 1) o (by simpa using hi); rwa [show k + (i + 1) = k + 1 + i by omega] at this) (by rw [e1]; exact hq1)
    refine ⟨val', fun j hj => by rw [h1 j (by omega)]; simp only [val1]; rw [if_neg (by omega)], ?_, fun i o' hi => ?_⟩
    · rw [List.length_cons, show k + (l.length + 1) = k + 1 + l.length by omega]; exact h2
    · cases i with
      | zero =>
        simp at hi
        subst hi
        rw [Nat.add_zero]
        have hv : val' k = v := by rw [h1 k (by omega)]; simp only [val1, if_true]
        rw [hv, tAt_val (val := val') (val' := val) fun j hj => by rw [h1 j (by simp at hj; omega)]; simp only [val1]; rw [if_neg (by simp at hj; omega)]]
        exact hq2
      | succ i =>
        have := h3 i o' (by simpa using hi)
        rwa [show k + 1 + i = k + (i + 1) by omega] at this

/-- The state when the operations of D are done. -/
def stAt (ops : Array Oper) (val : Nat → TV) (t : List (Nat × TV)) (h : Heap) (n : Nat) (D : Nat → Bool) : TS := ⟨tAt ops val t ((List.range n).reverse.filter D), h⟩

theorem SLx.ext {s s' : TS} {S : TS → Prop} (hS : S s') (ht : ∀ n, getT s'.t n = getT s.t n) (hh : s'.h = s.h) : SLx s S := fun _ E _ _ h1 h2 => ⟨s', E, hS, Env.Le.refl E, by rw [hh]; exact h1, fun n => by rw [ht]; exact h2 n⟩

theorem quiet_step {t : List (Nat × TV)} {h : Heap} {val : Nat → TV} {n : Nat} (hB : quietB ops n = true) {D : Nat → Bool} {i : Nat} {o : Oper} (hin : i < n) (ho : ops[i]? = some o) (hD : D i = false) (hall : ∀ e ∈ o.after, Region.binds .any e = true → D e.on = true)
    (hq : qstepT P ops o ⟨tAt ops val t (List.range i).reverse, h⟩ fun x _ => x = val i) : stepT P ops o (stAt ops val t h n D) fun s' => SLx s' fun s2 => s2 = stAt ops val t h n (doneAt D i) := by
  have hBi := List.all_eq_true.1 hB i (by simpa using hin)
  simp only [ho, Bool.and_eq_true, List.all_eq_true, List.mem_range, Bool.or_eq_true, decide_eq_true_eq, Array.any_eq_true'] at hBi
  obtain ⟨⟨hd, hrd⟩, huni⟩ := hBi
  obtain ⟨d, hd⟩ := Option.isSome_iff_exists.1 hd
  have hdi : dstAt ops i = d := by simp [dstAt, ho, hd]
  have uni : ∀ a b, a < n → b < n → dstAt ops a = dstAt ops b → a = b := fun a b ha hb hab => by
    have hBb := List.all_eq_true.1 hB b (by simpa using hb)
    cases hob : ops[b]? with
    | none => simp [hob] at hBb
    | some ob =>
      simp only [hob, Bool.and_eq_true, List.all_eq_true, List.mem_range, Bool.or_eq_true, decide_eq_true_eq] at hBb
      rcases hBb.2 a ha with h | h
      · exact h
      · exact (h hab).elim
  refine qstepT_stepT (s := ⟨tAt ops val t (List.range i).reverse, h⟩) (s' := stAt ops val t h n D) hd rfl (fun x hx => by
    show getT (tAt ops val t (List.range i).reverse) x = getT (tAt ops val t ((List.range n).reverse.filter D)) x
    by_cases hex : ∃ j, j < n ∧ dstAt ops j = x
    · obtain ⟨j, hj, hjx⟩ := hex
      rcases hrd x hx j hj with h | ⟨hji, e, he, hb, hej⟩
      · exact (h hjx).elim
      · have hDj : D j = true := hej ▸ hall e he hb
        rw [getT_tAt (j := j) (by simp [hji]) hjx (fun k hk hkx => uni k j (by simp at hk; omega) hj (hkx.trans hjx.symm)), getT_tAt (j := j) (by simp [hj, hDj]) hjx (fun k hk hkx => uni k j (by simp at hk; omega) hj (hkx.trans hjx.symm))]
    · have hno : ∀ k, k < n → dstAt ops k ≠ x := fun k hk hkx => hex ⟨k, hk, hkx⟩
      rw [getT_tAt_no (fun k hk => hno k (by simp at hk; omega)), getT_tAt_no (fun k hk => hno k (by simp at hk; omega))]) hq ?_
  refine SLx.ext rfl (fun x => ?_) rfl
  simp only [stAt, getT]
  by_cases hx : x = d
  · subst hx
    rw [if_pos rfl]
    exact getT_tAt (j := i) (by simp [hin, doneAt]) hdi (fun k hk hkx => uni k i (by simp at hk; omega) hin (hkx.trans hdi.symm))
  · rw [if_neg hx]
    by_cases hex : ∃ j, j < n ∧ dstAt ops j = x ∧ D j = true
    · obtain ⟨j, hj, hjx, hDj⟩ := hex
      rw [getT_tAt (j := j) (by simp [hj, doneAt, hDj]) hjx (fun k hk hkx => uni k j (by simp at hk; omega) hj (hkx.trans hjx.symm)), getT_tAt (j := j) (by simp [hj, hDj]) hjx (fun k hk hkx => uni k j (by simp at hk; omega) hj (hkx.trans hjx.symm))]
    · rw [getT_tAt_no (fun k hk hkx => ?_), getT_tAt_no (fun k hk hkx => ?_)]
      · simp at hk; exact hex ⟨k, hk.1, hkx, hk.2⟩
      · simp only [List.mem_filter, List.mem_reverse, List.mem_range, doneAt] at hk
        by_cases hki : k = i
        · subst hki; exact hx (hkx.symm.trans hdi)
        · rw [if_neg hki] at hk; exact hex ⟨k, hk.1, hkx, hk.2⟩

/-- A DRAWN REGION OF OPERATIONS THAT CHANGE NOTHING. -/
theorem draw_quiet {s : TS} {K : TS → Prop} (hm : P.follows .mixedOrders = true) (hedge : edgesOk ops = true) (hB : quietB ops ops.size = true) (h : quietT P ops ops.toList s K) : drawT P ops s K := by
  have hds : ∀ (i : Nat) (o : Oper), ops[i]? = some o → o.dst.isSome = true := fun i o ho => by
    have := List.all_eq_true.1 hB i (by simpa using (Array.getElem?_eq_some_iff.1 ho).1)
    simp only [ho, Bool.and_eq_true] at this
    exact this.1.1
  obtain ⟨val, -, h2, h3⟩ := quiet_vals (t := s.t) (h := s.h) (K := K) ops.toList 0 (fun _ => .any) (fun i o hi => by
    rw [Nat.zero_add]
    have ho : ops[i]? = some o := by simpa using hi
    exact ⟨ho, hds i o ho⟩) (by simpa [tAt] using h)
  simp only [Nat.zero_add, Array.length_toList] at h2 h3
  refine draw_F hm hedge (fun D s' => s' = stAt ops val s.t s.h ops.size D) (SLx.ext rfl (fun n => by show getT (tAt ops val s.t ((List.range ops.size).reverse.filter fun _ => false)) n = _; rw [show (List.range ops.size).reverse.filter (fun _ => false) = [] by simp]; rfl) rfl) (fun D s' hs' i o ho hD hall => ?_) fun D s' hall hs' => ?_
  · subst hs'
    exact quiet_step hB (Array.getElem?_eq_some_iff.1 ho).1 ho hD hall (h3 i o (by simpa using ho))
  · subst hs'
    have : (List.range ops.size).reverse.filter D = (List.range ops.size).reverse := List.filter_eq_self.2 fun i hi => hall i (by simpa using hi)
    simp only [stAt, this]
    exact h2

theorem srcT_K {t k : Nat} {s : TS} {x : TV} {K K' : Nat → List TV → Prop} (hk : ∀ m l, K m l → K' m l) (h : srcT P t k s x K) : srcT P t k s x K' := by
  unfold srcT at h ⊢
  split at h
  · exact ⟨h.1, h.2.1, hk _ _ h.2.2⟩
  · exact ⟨h.1, hk _ _ h.2⟩
  · split at h
    · exact ⟨h.1, hk _ _ h.2⟩
    · exact h.elim
  · exact ⟨h.1, hk _ _ h.2⟩
  · exact h.elim
theorem effT_K {d : Nat} {op : Op} {s : TS} {K K' : TV → Heap → Prop} (hk : ∀ r h, K r h → K' r h) (h : effT P d op s K) : effT P d op s K' := by
  unfold effT at h ⊢
  split at h
  · unfold allocT at h ⊢
    split at h
    · exact fun v => hk _ _ (h v)
    · exact h.elim
  · unfold boxT at h ⊢
    split at h
    · exact fun v => hk _ _ (h v)
    · exact h.elim
  · unfold buildSliceT at h ⊢
    split at h
    · split at h
      · exact ⟨h.1, fun v => hk _ _ (h.2 v)⟩
      · exact h.elim
    · exact h.elim
  · unfold storeT at h ⊢
    split at h
    · split at h
      · exact ⟨h.1, h.2.1, h.2.2.1, h.2.2.2.1, h.2.2.2.2.1, hk _ _ h.2.2.2.2.2⟩
      · exact h.elim
    · exact h.elim
  · split at h
    · unfold appT at h ⊢
      split at h
      · refine srcT_K (fun m new h => ?_) h
        split at h
        · exact ⟨h.1, h.2.1, fun v => hk _ _ (h.2.2 v)⟩
        · split at h
          · exact ⟨h.1, h.2.1, h.2.2.1, fun v => hk _ _ (h.2.2.2 v)⟩
          · exact h.elim
        · exact h.elim
      · exact h.elim
    · exact h.elim
  · split at h
    · unfold clearT at h ⊢
      split at h
      · split at h
        · exact ⟨h.1, hk _ _ h.2⟩
        · exact h.elim
      · exact h.elim
    · exact h.elim
  · exact funT_mono hk h
  · unfold nilT at h ⊢
    split at h
    · exact ⟨h.1, fun β hb => hk _ _ (h.2 β hb)⟩
    · exact h.elim
  · unfold nilT at h ⊢
    split at h
    · exact ⟨h.1, fun β hb => hk _ _ (h.2 β hb)⟩
    · exact h.elim
  · exact h.elim
theorem impL_K {A B : Prop} (hk : A → B) : ∀ gs : List Bool, impL gs A → impL gs B
  | [], h => hk h
  | g :: l, h => fun hg => impL_K hk l (h hg)
theorem stepT_K {o : Oper} {s : TS} {K K' : TS → Prop} (hk : ∀ s', K s' → K' s') (h : stepT P ops o s K) : stepT P ops o s K' := by
  unfold stepT at h ⊢
  split at h
  · split at h
    · exact ⟨h.1, hk _ h.2⟩
    · exact effT_K (fun r h => hk _) h
  · split at h
    · split at h
      · exact ⟨h.1, hk _ h.2⟩
      · exact guardE_fork (fun hg => by rw [hg, guardE_true] at h; exact effT_K (fun r h => hk _) h) fun hg => by rw [hg, guardE_false] at h; exact hk _ h
    · exact h.elim
/-- The last operation of a region waits for all others. -/
def lastB (ops : Array Oper) : Bool := match ops[ops.size - 1]? with
  | some o => (List.range (ops.size - 1)).all fun j => o.after.any fun e => Region.binds .any e && decide (e.on = j)
  | none => false
def lastT (P : Program) (ops : Array Oper) (K : TS → Prop) (s : TS) : Prop := match ops[ops.size - 1]? with
  | some o => stepT P ops o s K
  | none => False

/-- A DRAWN REGION OF OPERATIONS THAT CHANGE NOTHING, but for the last, which waits for all others. -/
theorem draw_last {s : TS} {K : TS → Prop} (hm : P.follows .mixedOrders = true) (hedge : edgesOk ops = true) (hB : quietB ops (ops.size - 1) = true) (hL : lastB ops = true) (h : quietT P ops (ops.toList.take (ops.size - 1)) s (lastT P ops K)) : drawT P ops s K := by
  have hpos : 0 < ops.size := by
    unfold lastB at hL
    split at hL
    · rename_i o ho; have := (Array.getElem?_eq_some_iff.1 ho).1; omega
    · cases hL
  have hds : ∀ (i : Nat) (o : Oper), i < ops.size - 1 → ops[i]? = some o → o.dst.isSome = true := fun i o hi ho => by
    have := List.all_eq_true.1 hB i (by simpa using hi)
    simp only [ho, Bool.and_eq_true] at this
    exact this.1.1
  obtain ⟨val, -, h2, h3⟩ := quiet_vals (t := s.t) (h := s.h) (K := lastT P ops K) (ops.toList.take (ops.size - 1)) 0 (fun _ => .any) (fun i o hi => by
    rw [Nat.zero_add]
    rw [List.getElem?_take] at hi
    split at hi
    · rename_i hlt
      have ho : ops[i]? = some o := by simpa using hi
      exact ⟨ho, hds i o hlt ho⟩
    · cases hi) (by simpa [tAt] using h)
  have hlen : (ops.toList.take (ops.size - 1)).length = ops.size - 1 := by simp
  rw [hlen, Nat.zero_add] at h2
  refine draw_F hm hedge (fun D s' => (D (ops.size - 1) = false ∧ s' = stAt ops val s.t s.h (ops.size - 1) D) ∨ ((∀ j, j < ops.size → D j = true) ∧ K s')) (SLx.ext (.inl ⟨rfl, rfl⟩) (fun n => by show getT (tAt ops val s.t ((List.range (ops.size - 1)).reverse.filter fun _ => false)) n = _; rw [show (List.range (ops.size - 1)).reverse.filter (fun _ => false) = [] by simp]; rfl) rfl) (fun D s' hs' i o ho hD hall => ?_) fun D s' hall hs' => ?_
  · have hi := (Array.getElem?_eq_some_iff.1 ho).1
    by_cases hil : i = ops.size - 1
    · rcases hs' with ⟨_, hs'⟩ | ⟨hd, _⟩
      · have hallD : ∀ j, j < ops.size - 1 → D j = true := fun j hj => by
          unfold lastB at hL
          rw [← hil, ho] at hL
          simp only [List.all_eq_true, List.mem_range, Bool.and_eq_true, decide_eq_true_eq, Array.any_eq_true'] at hL
          obtain ⟨e, he, hb, hej⟩ := hL j (by omega)
          exact hej ▸ hall e he hb
        have hfull : (List.range (ops.size - 1)).reverse.filter D = (List.range (ops.size - 1)).reverse := List.filter_eq_self.2 fun j hj => hallD j (by simpa using hj)
        subst hs'
        unfold lastT at h2
        rw [← hil, ho] at h2
        simp only [stAt, hfull]
        refine stepT_K (fun s' hs' => SLx.done (.inr ⟨fun j hj => by simp only [doneAt]; split; rfl; exact hallD j (by omega), hs'⟩)) ?_
        rw [hil] at h2
        exact h2
      · rw [hd i hi] at hD; cases hD
    · rcases hs' with ⟨hd, hs'⟩ | ⟨hd, _⟩
      · subst hs'
        refine stepT_K (fun s' hs' e E w tm a b => ?_) (quiet_step hB (by omega) ho hD hall (by have := h3 i o (by rw [List.getElem?_take, if_pos (by omega)]; simpa using ho); rwa [Nat.zero_add] at this))
        obtain ⟨s2, E', rfl, r2⟩ := hs' e E w tm a b
        exact ⟨_, E', .inl ⟨by simp only [doneAt]; rw [if_neg (Ne.symm hil)]; exact hd, rfl⟩, r2⟩
      · rw [hd i hi] at hD; cases hD
  · rcases hs' with ⟨hd, _⟩ | ⟨_, hk⟩
    · rw [hall _ (by omega)] at hd; cases hd
    · exact hk
end
end Go.Proofs.YtekmhdiajjfgfaaDoor.TL
