/- Own words, part 19: regions whose order is drawn: operations that change nothing, one effect, then one operation behind the other. No program is named here. -/
import Derived.Test.YtekmhdiajjfgfaaDoorTs
namespace Go.Proofs.YtekmhdiajjfgfaaDoor.TL
open Go
set_option linter.unusedVariables false
set_option linter.unusedSimpArgs false

section
variable {P : Program} {ops : Array Oper}

/-- What does not look at memory. -/
def freeOp (o : Oper) : Bool := o.guard.isNone && match o.op with | .move _ | .assign _ => true | _ => false
def waitsFor (o : Oper) (j : Nat) : Bool := o.after.any fun e => Region.binds .any e && decide (e.on = j)
/-- All that must be done ahead of an operation. -/
def reqs (ops : Array Oper) (o : Oper) (m : Nat) : List Nat :=
  (List.range m).reverse.foldl (fun acc j => if waitsFor o j || acc.any (fun k => match ops[k]? with | some p => waitsFor p j | none => false) then j :: acc else acc) []
/-- Operation m is the effect: of those ahead of it, what it does not wait for does not look at memory; all behind it wait for all ahead of them. -/
def appB (ops : Array Oper) (m : Nat) : Bool :=
  ((List.range m).all fun j => !effAt ops j) &&
  (match ops[m]? with
    | some o => o.dst.isSome && isEff o.op && o.guard.isNone && ((List.range m).all fun j => (reqs ops o m).contains j || (match ops[j]? with | some p => freeOp p | none => false)) &&
        ((reads ops o).all fun x => (List.range m).all fun j => decide (dstAt ops j ≠ x) || (reqs ops o m).contains j) && (List.range m).all fun j => decide (dstAt ops j ≠ dstAt ops m) &&
        (match ops[j]? with | some p => (reads ops p).all fun x => decide (x ≠ dstAt ops m) | none => false)
    | none => false) &&
  (List.range ops.size).all fun i => decide (i ≤ m) || match ops[i]? with | some o => waitsFor o (i - 1) && (decide (i ≠ m + 1) || (List.range i).all fun j => waitsFor o j) | none => false

theorem qstep_free {o : Oper} {t : List (Nat × TV)} {h h' : Heap} {J : Unit → Prop} {K : List (Nat × TV) → (Unit → Prop) → Prop} (hf : freeOp o = true) (hq : chStep P ops (fun _ : Unit => h) () o J t K) : chStep P ops (fun _ : Unit => h') () o J t K := by
  unfold freeOp at hf
  simp only [Bool.and_eq_true] at hf
  obtain ⟨hg, hop⟩ := hf
  have hg' : o.guard = none := by simpa using hg
  have hgs : guardsOf ops t o = some [] := by unfold guardsOf; rw [hg']
  unfold chStep at hq ⊢
  rw [hgs] at hq ⊢
  simp only at hq ⊢
  split at hop
  · rename_i x ho
    rw [ho] at hq ⊢
    obtain ⟨a, b, c, dd, e⟩ := hq
    exact ⟨a, b, fun _ => rfl, fun _ => trivial, by cases x <;> exact e⟩
  · rename_i x ho
    rw [ho] at hq ⊢
    obtain ⟨a, b, c, dd, e⟩ := hq
    exact ⟨a, b, fun _ => rfl, fun _ => trivial, by cases x <;> exact e⟩
  · cases hop

theorem waits_done {o : Oper} {D : Nat → Bool} {j : Nat} (hw : waitsFor o j = true) (hall : ∀ e ∈ o.after, Region.binds .any e = true → D e.on = true) : D j = true := by
  obtain ⟨e, he, hb⟩ := Array.any_eq_true'.1 hw
  simp only [Bool.and_eq_true, decide_eq_true_eq] at hb
  exact hb.2 ▸ hall e he hb.1

theorem reqs_done {o : Oper} {D : Nat → Bool} {m : Nat} (hall : ∀ e ∈ o.after, Region.binds .any e = true → D e.on = true) (hinv : ∀ (k : Nat) (p : Oper) (j : Nat), ops[k]? = some p → D k = true → waitsFor p j = true → D j = true) : ∀ j, (reqs ops o m).contains j = true → D j = true := by
  have key : ∀ (l acc : List Nat), (∀ j ∈ acc, D j = true) → ∀ j ∈ l.foldl (fun acc j => if waitsFor o j || acc.any (fun k => match ops[k]? with | some p => waitsFor p j | none => false) then j :: acc else acc) acc, D j = true := by
    intro l
    induction l with
    | nil => intro acc h; exact h
    | cons x l ih =>
      intro acc h
      simp only [List.foldl_cons]
      refine ih _ fun j hj => ?_
      split at hj
      · rename_i hc
        rcases List.mem_cons.1 hj with rfl | hj
        · rcases Bool.or_eq_true _ _ ▸ hc with hc | hc
          · exact waits_done hc hall
          · obtain ⟨k, hk, hk2⟩ := List.any_eq_true.1 hc
            split at hk2
            · rename_i p hp
              exact hinv k p j hp (h k hk) hk2
            · cases hk2
        · exact h j hj
      · exact h j hj
  intro j hj
  have h2 : j ∈ reqs ops o m := by simpa using hj
  unfold reqs at h2
  exact key _ [] (fun _ hh => by cases hh) j h2

theorem drop_at {l : List Oper} {k : Nat} {o : Oper} (h : l[k]? = some o) : l.drop k = o :: l.drop (k + 1) := by
  have hk := (List.getElem?_eq_some_iff.1 h)
  obtain ⟨h1, rfl⟩ := hk
  exact List.drop_eq_getElem_cons h1

theorem draw_app {s : TS} {K : TS → Prop} (m d : Nat) (o : Oper) (ho : ops[m]? = some o) (hd : o.dst = some d) (hm : P.follows .mixedOrders = true) (hedge : edgesOk ops = true) (hB : quietB ops m = true) (hA : appB ops m = true)
    (h : chT P ops (fun _ : Unit => s.h) () (ops.toList.take m) (fun _ => True) s.t fun t1 _ => effT P d o.op ⟨t1, s.h⟩ fun r h' => opsT P ops (ops.toList.drop (m + 1)) ⟨(d, r) :: t1, h'⟩ K) : drawT P ops s K := by
  have hmlt := (Array.getElem?_eq_some_iff.1 ho).1
  have hdm : dstAt ops m = d := by simp [dstAt, ho, hd]
  unfold appB at hA
  simp only [ho, Bool.and_eq_true, List.all_eq_true, List.mem_range, Bool.or_eq_true, decide_eq_true_eq] at hA
  obtain ⟨⟨hAn, ⟨⟨⟨⟨⟨_, hAe⟩, hAg⟩, hAw⟩, hAr⟩, hAd⟩⟩, hAl⟩ := hA
  have hds : ∀ (i : Nat) (p : Oper), i < m → ops[i]? = some p → p.dst.isSome = true := fun i p hi hp => by
    have := List.all_eq_true.1 hB i (by simpa using hi)
    simp only [hp, Bool.and_eq_true] at this
    exact this.1.1
  have hne : ∀ i p, i < m → ops[i]? = some p → isEff p.op = false := fun i p hi hp => by
    have := hAn i hi
    simp only [effAt, hp, Bool.not_eq_true'] at this
    exact this
  obtain ⟨val, Jat, -, hJ0, h2, h3⟩ := chain_vals (P := P) (ops := ops) (g := fun _ : Unit => s.h) (x0 := ()) (t := s.t) (ops.toList.take m) 0 (fun _ => .any) (fun _ _ => True) (fun i p hi => by
    rw [Nat.zero_add]
    rw [List.getElem?_take] at hi
    split at hi
    · rename_i hlt
      have hp : ops[i]? = some p := by simpa using hi
      exact ⟨hp, hds i p hlt hp⟩
    · cases hi) (by simpa [tAt] using h)
  have hlen : (ops.toList.take m).length = m := by simp; omega
  rw [hlen, Nat.zero_add] at h2
  have h3' : ∀ i p, i < m → ops[i]? = some p → chStep P ops (fun _ : Unit => s.h) () p (Jat i) (tAt ops val s.t (List.range i).reverse) fun t2 J2 => t2 = (p.dst.getD 0, val i) :: tAt ops val s.t (List.range i).reverse ∧ J2 = Jat (i + 1) := fun i p hi hp => by
    have := h3 i p (by rw [List.getElem?_take, if_pos hi]; simpa using hp)
    rwa [Nat.zero_add] at this
  let full := tAt ops val s.t (List.range m).reverse
  let part := fun D : Nat → Bool => tAt ops val s.t ((List.range m).reverse.filter D)
  have hfull : ∀ D : Nat → Bool, (∀ i, i < m → D i = true) → part D = full := fun D hall => by
    show tAt ops val s.t ((List.range m).reverse.filter D) = _
    rw [List.filter_eq_self.2 fun i hi => hall i (by simpa using hi)]
  let Post := fun (r : TV) (h' : Heap) => opsT P ops (ops.toList.drop (m + 1)) ⟨(d, r) :: full, h'⟩ K
  have hprev : ∀ i p, ops[i]? = some p → m < i → ∀ D : Nat → Bool, (∀ e ∈ p.after, Region.binds .any e = true → D e.on = true) → D (i - 1) = true := fun i p hp hi D hall => by
    have := hAl i (by simpa using (Array.getElem?_eq_some_iff.1 hp).1)
    rcases this with h | h
    · omega
    · rw [hp] at h
      simp only [Bool.and_eq_true] at h
      exact waits_done h.1 hall
  have hfirst : ∀ p, ops[m + 1]? = some p → ∀ D : Nat → Bool, (∀ e ∈ p.after, Region.binds .any e = true → D e.on = true) → ∀ j, j < m + 1 → D j = true := fun p hp D hall j hj => by
    have := hAl (m + 1) (by simpa using (Array.getElem?_eq_some_iff.1 hp).1)
    rcases this with h | h
    · omega
    · rw [hp] at h
      simp only [Bool.and_eq_true, Bool.or_eq_true, decide_eq_true_eq, ne_eq, not_true_eq_false, false_or] at h
      exact waits_done (List.all_eq_true.1 h.2 j (by simpa using hj)) hall
  refine draw_F hm hedge (fun D s' => ((∀ i, m ≤ i → D i = false) ∧ (∀ (k : Nat) (p : Oper) (j : Nat), ops[k]? = some p → D k = true → waitsFor p j = true → D j = true) ∧ s' = ⟨part D, s.h⟩) ∨ (D m = true ∧ (∀ i, m < i → D i = false) ∧ (∀ j, j < m → (reqs ops o m).contains j = true → D j = true) ∧ ∃ r h', Post r h' ∧ s' = ⟨(d, r) :: part D, h'⟩) ∨
    (∃ k, m < k ∧ (∀ i, i < k → D i = true) ∧ (∀ i, k ≤ i → D i = false) ∧ opsT P ops (ops.toList.drop k) s' K)) (SLx.ext (s' := ⟨part fun _ => false, s.h⟩) (.inl ⟨fun _ _ => rfl, fun _ _ _ _ h => (Bool.false_ne_true h).elim, rfl⟩) (fun n => by
      show getT (tAt ops val s.t ((List.range m).reverse.filter fun _ => false)) n = _
      rw [show (List.range m).reverse.filter (fun _ => false) = [] by simp]; rfl) rfl) (fun D s' hF i p hp hD hall => ?_) fun D s' hall hF => ?_
  · rcases hF with ⟨hF1, hFi, rfl⟩ | ⟨hF1, hF2, hF3, r, h', hPost, rfl⟩ | ⟨k, hk, hk1, hk2, hk3⟩
    · by_cases him : i < m
      · obtain ⟨di, hdi⟩ := Option.isSome_iff_exists.1 (hds i p him hp)
        have hdi' : dstAt ops i = di := by simp [dstAt, hp, hdi]
        refine (chStep_stepT (x := ()) (J' := Jat (i + 1)) (v := val i) hdi (reads_agree hB him hp hall) (h3' i p him hp) (fun he => by rw [hne i p him hp] at he; cases he) fun y hy1 hy2 => ?_).2
        refine SLx.ext (s' := ⟨part (doneAt D i), s.h⟩) (.inl ⟨fun j hj => by simp only [doneAt]; rw [if_neg (by omega)]; exact hF1 j hj, fun k' p' j' hp' hk' hw' => ?_, rfl⟩) (fun n => put_agree hB him hdi' n) rfl
        simp only [doneAt] at hk' ⊢
        split
        · rfl
        · split at hk'
          · rename_i hki
            rw [hki, hp] at hp'
            cases hp'
            exact waits_done hw' hall
          · exact hFi k' p' j' hp' hk' hw'
      · by_cases hie : i = m
        · rw [hie] at hp hD ⊢
          have hpo : p = o := (Option.some.inj (ho.symm.trans hp)).symm
          rw [hpo] at hall ⊢
          have uni := dst_uni hB
          have hg' : o.guard = none := by simpa using hAg
          have hpart : part (doneAt D m) = part D := by
            show tAt ops val s.t ((List.range m).reverse.filter (doneAt D m)) = _
            rw [List.filter_congr fun j hj => show doneAt D m j = D j by simp only [doneAt]; rw [if_neg (by simp at hj; omega)]]
          have hx : ∀ x ∈ opnds o.op, (⟨full, s.h⟩ : TS).ev x = (⟨part D, s.h⟩ : TS).ev x := fun x hx => by
            cases x with
            | tmp t =>
              have htr : t ∈ reads ops o := List.mem_append_left _ (List.mem_filterMap.2 ⟨.tmp t, hx, rfl⟩)
              show getT full t = getT (part D) t
              by_cases hex : ∃ j, j < m ∧ dstAt ops j = t
              · obtain ⟨j, hj, hjt⟩ := hex
                rcases hAr t htr j hj with h5 | h5
                · exact (h5 hjt).elim
                · have hDj := reqs_done hall hFi j h5
                  rw [getT_tAt (j := j) (by simp [hj]) hjt (fun k hk hkx => uni k j (by simp at hk; omega) hj (hkx.trans hjt.symm)), getT_tAt (j := j) (by simp [hj, hDj]) hjt (fun k hk hkx => uni k j (by simp at hk; omega) hj (hkx.trans hjt.symm))]
              · have hno : ∀ k, k < m → dstAt ops k ≠ t := fun k hk hkx => hex ⟨k, hk, hkx⟩
                rw [getT_tAt_no (fun k hk => hno k (by simp at hk; omega)), getT_tAt_no (fun k hk => hno k (by simp at hk; omega))]
            | const v => rfl
            | global g => rfl
            | func f => rfl
          refine stepT_intro (gs := []) (by unfold guardsOf; rw [hg']) (.inr ⟨qop_eff hAe, ?_⟩)
          simp only [allB, guardE_true, stripS_nil]
          have hdd : o.dst.getD 0 = d := by simp [hd]
          rw [hdd]
          refine effT_K (fun r h' hP => SLx.done (.inr (.inl ⟨by simp [doneAt], fun j hj => ?_, fun j hj hw => ?_, r, h', hP, ?_⟩))) (effT_congr (s := ⟨full, s.h⟩) rfl hAe hx h2)
          · simp only [doneAt]; rw [if_neg (by omega)]; exact hF1 j (by omega)
          · simp only [doneAt]; split; rfl; exact reqs_done hall hFi j hw
          · rw [hpart]; simp [TS.to, hd]
        · have := hprev i p hp (by omega) D hall
          rw [hF1 (i - 1) (by omega)] at this; cases this
    · by_cases him : i < m
      · have uni := dst_uni hB
        have hfree : freeOp p = true := by
          rcases hAw i him with h5 | h5
          · rw [hF3 i him h5] at hD; cases hD
          · rw [hp] at h5; exact h5
        obtain ⟨di, hdi⟩ := Option.isSome_iff_exists.1 (hds i p him hp)
        have hdi' : dstAt ops i = di := by simp [dstAt, hp, hdi]
        have hned : di ≠ d := by rw [← hdi', ← hdm]; exact (hAd i him).1
        have hnr : ∀ x ∈ reads ops p, x ≠ d := fun x hx => by
          have := (hAd i him).2
          rw [hp] at this
          have := List.all_eq_true.1 this x hx
          rw [← hdm]; simpa using this
        refine (chStep_stepT (g := fun _ : Unit => h') (x := ()) (J' := Jat (i + 1)) (v := val i) hdi (t' := (d, r) :: part D) (fun x hx => ?_) (qstep_free hfree (h3' i p him hp)) (fun he => by rw [hne i p him hp] at he; cases he) fun y hy1 hy2 => ?_).2
        · show getT (tAt ops val s.t (List.range i).reverse) x = getT ((d, r) :: part D) x
          simp only [getT]
          rw [if_neg (hnr x hx)]
          exact reads_agree hB him hp hall x hx
        · refine SLx.ext (s' := ⟨(d, r) :: part (doneAt D i), h'⟩) (.inr (.inl ⟨?_, fun j hj => ?_, fun j hj hw => ?_, r, h', hPost, rfl⟩)) (fun n => ?_) rfl
          · simp only [doneAt]; split; rfl; exact hF1
          · simp only [doneAt]; rw [if_neg (by omega)]; exact hF2 j hj
          · simp only [doneAt]; split; rfl; exact hF3 j hj hw
          · show getT ((d, r) :: part (doneAt D i)) n = getT ((di, val i) :: (d, r) :: part D) n
            have := put_agree (t := s.t) (val := val) (D := D) hB him hdi' n
            simp only [getT] at this ⊢
            by_cases h1 : n = d
            · rw [if_pos h1, if_neg (by rw [h1]; exact Ne.symm hned), if_pos h1]
            · rw [if_neg h1]
              show getT (tAt ops val s.t ((List.range m).reverse.filter (doneAt D i))) n = _
              rw [this]
              split
              · rfl
              · rfl
      · by_cases hie : i = m
        · rw [hie, hF1] at hD; cases hD
        · have hi1 : i = m + 1 := by
            by_cases h1 : m + 1 < i
            · have := hprev i p hp (by omega) D hall
              rw [hF2 (i - 1) (by omega)] at this; cases this
            · omega
          subst hi1
          have hall2 := hfirst p hp D hall
          rw [hfull D fun j hj => hall2 j (by omega)]
          simp only [Post] at hPost
          rw [drop_at (show ops.toList[m + 1]? = some p by simpa using hp)] at hPost
          refine stepT_K (fun s'' hs'' => SLx.done (.inr (.inr ⟨m + 1 + 1, by omega, fun j hj => ?_, fun j hj => ?_, hs''⟩))) hPost
          · simp only [doneAt]; split; rfl; exact hall2 j (by omega)
          · simp only [doneAt]; rw [if_neg (by omega)]; exact hF2 j (by omega)
    · have hi : i = k := by
        by_cases h1 : i < k
        · rw [hk1 i h1] at hD; cases hD
        · by_cases h2 : k < i
          · have := hprev i p hp (by omega) D hall
            rw [hk2 (i - 1) (by omega)] at this; cases this
          · omega
      subst hi
      rw [drop_at (show ops.toList[i]? = some p by simpa using hp)] at hk3
      refine stepT_K (fun s'' hs'' => SLx.done (.inr (.inr ⟨i + 1, by omega, fun j hj => ?_, fun j hj => ?_, hs''⟩))) hk3
      · simp only [doneAt]; split; rfl; exact hk1 j (by omega)
      · simp only [doneAt]; rw [if_neg (by omega)]; exact hk2 j (by omega)
  · rcases hF with ⟨hF1, _, rfl⟩ | ⟨hF1, hF2, hF3, r, h', hPost, rfl⟩ | ⟨k, hk, hk1, hk2, hk3⟩
    · exact absurd (hall m hmlt) (by simp [hF1 m (Nat.le_refl _)])
    · have hsz : ops.size = m + 1 := by
        by_cases h1 : m + 1 < ops.size
        · have := hall (m + 1) h1; rw [hF2 (m + 1) (by omega)] at this; cases this
        · omega
      have : ops.toList.drop (m + 1) = [] := List.drop_eq_nil_of_le (by simp; omega)
      simp only [Post, this] at hPost
      rw [hfull D fun i hi => hall i (by omega)]
      exact hPost
    · have hsz : ops.size ≤ k := by
        by_cases h1 : k < ops.size
        · have := hall k h1; rw [hk2 k (Nat.le_refl _)] at this; cases this
        · omega
      have : ops.toList.drop k = [] := List.drop_eq_nil_of_le (by simpa using hsz)
      rw [this] at hk3
      exact hk3

/-- A slot filled, if there is one. -/
def dl (od : Option Nat) (r : TV) (t : List (Nat × TV)) : List (Nat × TV) := match od with | some d => (d, r) :: t | none => t
/-- Operation m is the effect, rq is what must be done ahead of it; all behind it wait for all ahead of them. -/
def stB (ops : Array Oper) (m : Nat) (rq : List Nat) : Bool :=
  ((List.range m).all fun j => !effAt ops j) &&
  (match ops[m]? with
    | some o => isEff o.op && o.guard.isNone && (reqs ops o m == rq) && ((reads ops o).all fun x => (List.range m).all fun j => decide (dstAt ops j ≠ x) || rq.contains j) && match o.dst with
        | some d => (List.range m).all fun j => decide (dstAt ops j ≠ d) && (match ops[j]? with | some p => (reads ops p).all fun x => decide (x ≠ d) | none => false)
        | none => true
    | none => false) &&
  (List.range ops.size).all fun i => decide (i ≤ m) || match ops[i]? with | some o => waitsFor o (i - 1) && (decide (i ≠ m + 1) || (List.range i).all fun j => waitsFor o j) | none => false
/-- What the effect need not wait for is in the memory behind it what it was. -/
def chA (P : Program) (ops : Array Oper) (h' : Heap) (rq : List Nat) (t1 : List (Nat × TV)) : Nat → List Oper → List (Nat × TV) → Prop
  | _, [], _ => True
  | i, o :: l, t => if (rq.contains i || freeOp o) = true then chA P ops h' rq t1 (i + 1) l ((o.dst.getD 0, getT t1 (o.dst.getD 0)) :: t)
      else chStep P ops (fun _ : Unit => h') () o (fun _ => True) t (fun t2 _ => t2 = (o.dst.getD 0, getT t1 (o.dst.getD 0)) :: t) ∧ chA P ops h' rq t1 (i + 1) l ((o.dst.getD 0, getT t1 (o.dst.getD 0)) :: t)

theorem chA_get {h' : Heap} {rq : List Nat} {val : Nat → TV} {t0 : List (Nat × TV)} {m : Nat} (hB : quietB ops m = true) (hm : m ≤ ops.size) : ∀ (l : List Oper) (k : Nat), k + l.length = m → (∀ i o, l[i]? = some o → ops[k + i]? = some o) →
    chA P ops h' rq (tAt ops val t0 (List.range m).reverse) k l (tAt ops val t0 (List.range k).reverse) → ∀ i p, l[i]? = some p → (rq.contains (k + i) || freeOp p) = false →
    chStep P ops (fun _ : Unit => h') () p (fun _ => True) (tAt ops val t0 (List.range (k + i)).reverse) fun t2 _ => t2 = (p.dst.getD 0, val (k + i)) :: tAt ops val t0 (List.range (k + i)).reverse
  | [], k, _, _, _, i, p, hi, _ => by simp at hi
  | o :: l, k, hk, hl, h, i, p, hi, hf => by
    have ho := hl 0 o rfl
    rw [Nat.add_zero] at ho
    simp only [List.length_cons] at hk
    have hkm : k < m := by omega
    have hd : o.dst.getD 0 = dstAt ops k := by simp [dstAt, ho]
    have hv : getT (tAt ops val t0 (List.range m).reverse) (o.dst.getD 0) = val k := by
      rw [hd]
      exact getT_tAt (j := k) (by simp [hkm]) rfl (fun q hq hqx => dst_uni hB q k (by simp at hq; omega) hkm hqx)
    have hn : (o.dst.getD 0, val k) :: tAt ops val t0 (List.range k).reverse = tAt ops val t0 (List.range (k + 1)).reverse := by
      rw [List.range_succ, List.reverse_append, List.reverse_singleton, List.singleton_append]
      simp only [tAt, List.map_cons, List.cons_append, hd]
    simp only [chA, hv, hn] at h
    have hnext : ∀ h2 : chA P ops h' rq (tAt ops val t0 (List.range m).reverse) (k + 1) l (tAt ops val t0 (List.range (k + 1)).reverse), ∀ i' p', l[i']? = some p' → (rq.contains (k + 1 + i') || freeOp p') = false →
        chStep P ops (fun _ : Unit => h') () p' (fun _ => True) (tAt ops val t0 (List.range (k + 1 + i')).reverse) fun t2 _ => t2 = (p'.dst.getD 0, val (k + 1 + i')) :: tAt ops val t0 (List.range (k + 1 + i')).reverse :=
      fun h2 => chA_get hB hm l (k + 1) (by omega) (fun i' o' hi' => by have := hl (i' + 1) o' (by simpa using hi'); rwa [show k + (i' + 1) = k + 1 + i' by omega] at this) h2
    cases i with
    | zero =>
      simp at hi
      subst hi
      rw [Nat.add_zero] at hf ⊢
      rw [if_neg (by rw [hf]; simp)] at h
      rw [hn]
      exact h.1
    | succ i =>
      have hi' : l[i]? = some p := by simpa using hi
      have := hnext (by split at h; exact h; exact h.2) i p hi' (by rw [show k + 1 + i = k + (i + 1) by omega]; exact hf)
      rwa [show k + 1 + i = k + (i + 1) by omega] at this

theorem chStep_iff {X : Type} {g : X → Heap} {x0 : X} {o : Oper} {J : X → Prop} {t : List (Nat × TV)} {K : List (Nat × TV) → (X → Prop) → Prop} (he : isEff o.op = false) : chStep P ops g x0 o J t K ↔
    ∃ gs p, guardsOf ops t o = some gs ∧ qopB P ⟨t, g x0⟩ (fun x => stripL gs ((⟨t, g x0⟩ : TS).ev x)) o.op = some p ∧ impL gs p.1 ∧ (∀ x, qopB P ⟨t, g x⟩ (fun x => stripL gs ((⟨t, g x0⟩ : TS).ev x)) o.op = some p) ∧ (∀ x, freshB o.op (g x) (o.dst.getD 0)) ∧ K ((o.dst.getD 0, optL gs p.2) :: t) J := by
  constructor
  · intro h
    unfold chStep at h
    split at h
    · exact h.elim
    · rename_i gs hgs
      split at h
      · rename_i p hp
        exact ⟨gs, p, hgs, hp, h.2.1, h.2.2.1, h.2.2.2.1, h.2.2.2.2⟩
      · rw [he] at h; cases h.1
  · rintro ⟨gs, p, h1, h2, h3, h4, h5, h6⟩
    unfold chStep
    rw [h1]
    simp only
    rw [h2]
    exact ⟨he, h3, h4, h5, h6⟩
theorem chStep_J {o : Oper} {h : Heap} {J J' : Unit → Prop} {t : List (Nat × TV)} {v : TV} {K : List (Nat × TV) → (Unit → Prop) → Prop} (hK : ∀ t2 J2, K t2 J2 → t2 = (o.dst.getD 0, v) :: t) (he : isEff o.op = false) (hq : chStep P ops (fun _ : Unit => h) () o J t K) :
    chStep P ops (fun _ : Unit => h) () o J' t fun t2 J2 => t2 = (o.dst.getD 0, v) :: t ∧ J2 = J' := by
  rw [chStep_iff he] at hq ⊢
  obtain ⟨gs, p, h1, h2, h3, h4, h5, h6⟩ := hq
  exact ⟨gs, p, h1, h2, h3, h4, h5, hK _ _ h6, rfl⟩

/-- A DRAWN REGION: operations that change nothing, one effect (operation m, which waits for rq alone), then one behind the other. -/
theorem draw_st {s : TS} {K : TS → Prop} (m : Nat) (rq : List Nat) (hm : P.follows .mixedOrders = true) (hedge : edgesOk ops = true) (hB : quietB ops m = true) (hA : stB ops m rq = true)
    (h : match ops[m]? with | some o => chT P ops (fun _ : Unit => s.h) () (ops.toList.take m) (fun _ => True) s.t fun t1 _ => effT P (o.dst.getD 0) o.op ⟨t1, s.h⟩ fun r h' => chA P ops h' rq t1 0 (ops.toList.take m) s.t ∧ opsT P ops (ops.toList.drop (m + 1)) ⟨dl o.dst r t1, h'⟩ K | none => False) : drawT P ops s K := by
  cases ho : ops[m]? with
  | none => rw [ho] at h; exact h.elim
  | some o =>
  rw [ho] at h
  simp only at h
  have hmlt := (Array.getElem?_eq_some_iff.1 ho).1
  unfold stB at hA
  simp only [ho, Bool.and_eq_true, List.all_eq_true, List.mem_range, Bool.or_eq_true, decide_eq_true_eq, beq_iff_eq] at hA
  obtain ⟨⟨hAn, ⟨⟨⟨hAe, hAg⟩, hAq⟩, hAr⟩, hAd0⟩, hAl⟩ := hA
  have hAd : ∀ d, o.dst = some d → ∀ j, j < m → dstAt ops j ≠ d ∧ (match ops[j]? with | some p => (reads ops p).all fun x => decide (x ≠ d) | none => false) = true := fun d hd j hj => by
    rw [hd] at hAd0
    simp only [List.all_eq_true, List.mem_range, Bool.and_eq_true, decide_eq_true_eq] at hAd0
    have := hAd0 j hj
    refine ⟨this.1, ?_⟩
    have h2 := this.2
    split at h2
    · simp only [List.all_eq_true, decide_eq_true_eq]
      simpa using h2
    · cases h2
  have hds : ∀ (i : Nat) (p : Oper), i < m → ops[i]? = some p → p.dst.isSome = true := fun i p hi hp => by
    have := List.all_eq_true.1 hB i (by simpa using hi)
    simp only [hp, Bool.and_eq_true] at this
    exact this.1.1
  have hne : ∀ i p, i < m → ops[i]? = some p → isEff p.op = false := fun i p hi hp => by
    have := hAn i hi
    simp only [effAt, hp, Bool.not_eq_true'] at this
    exact this
  obtain ⟨val, Jat, -, hJ0, h2, h3⟩ := chain_vals (P := P) (ops := ops) (g := fun _ : Unit => s.h) (x0 := ()) (t := s.t) (ops.toList.take m) 0 (fun _ => .any) (fun _ _ => True) (fun i p hi => by
    rw [Nat.zero_add]
    rw [List.getElem?_take] at hi
    split at hi
    · rename_i hlt
      have hp : ops[i]? = some p := by simpa using hi
      exact ⟨hp, hds i p hlt hp⟩
    · cases hi) (by simpa [tAt] using h)
  have hlen : (ops.toList.take m).length = m := by simp; omega
  rw [hlen, Nat.zero_add] at h2
  have h3' : ∀ i p, i < m → ops[i]? = some p → chStep P ops (fun _ : Unit => s.h) () p (Jat i) (tAt ops val s.t (List.range i).reverse) fun t2 J2 => t2 = (p.dst.getD 0, val i) :: tAt ops val s.t (List.range i).reverse ∧ J2 = Jat (i + 1) := fun i p hi hp => by
    have := h3 i p (by rw [List.getElem?_take, if_pos hi]; simpa using hp)
    rwa [Nat.zero_add] at this
  let full := tAt ops val s.t (List.range m).reverse
  let part := fun D : Nat → Bool => tAt ops val s.t ((List.range m).reverse.filter D)
  have hfull : ∀ D : Nat → Bool, (∀ i, i < m → D i = true) → part D = full := fun D hall => by
    show tAt ops val s.t ((List.range m).reverse.filter D) = _
    rw [List.filter_eq_self.2 fun i hi => hall i (by simpa using hi)]
  let Post := fun (r : TV) (h' : Heap) => chA P ops h' rq full 0 (ops.toList.take m) s.t ∧ opsT P ops (ops.toList.drop (m + 1)) ⟨dl o.dst r full, h'⟩ K
  have hprev : ∀ i p, ops[i]? = some p → m < i → ∀ D : Nat → Bool, (∀ e ∈ p.after, Region.binds .any e = true → D e.on = true) → D (i - 1) = true := fun i p hp hi D hall => by
    have := hAl i (by simpa using (Array.getElem?_eq_some_iff.1 hp).1)
    rcases this with h | h
    · omega
    · rw [hp] at h
      simp only [Bool.and_eq_true] at h
      exact waits_done h.1 hall
  have hfirst : ∀ p, ops[m + 1]? = some p → ∀ D : Nat → Bool, (∀ e ∈ p.after, Region.binds .any e = true → D e.on = true) → ∀ j, j < m + 1 → D j = true := fun p hp D hall j hj => by
    have := hAl (m + 1) (by simpa using (Array.getElem?_eq_some_iff.1 hp).1)
    rcases this with h | h
    · omega
    · rw [hp] at h
      simp only [Bool.and_eq_true, Bool.or_eq_true, decide_eq_true_eq, ne_eq, not_true_eq_false, false_or] at h
      exact waits_done (List.all_eq_true.1 h.2 j (by simpa using hj)) hall
  refine draw_F hm hedge (fun D s' => ((∀ i, m ≤ i → D i = false) ∧ (∀ (k : Nat) (p : Oper) (j : Nat), ops[k]? = some p → D k = true → waitsFor p j = true → D j = true) ∧ s' = ⟨part D, s.h⟩) ∨ (D m = true ∧ (∀ i, m < i → D i = false) ∧ (∀ j, j < m → rq.contains j = true → D j = true) ∧ ∃ r h', Post r h' ∧ s' = ⟨dl o.dst r (part D), h'⟩) ∨
    (∃ k, m < k ∧ (∀ i, i < k → D i = true) ∧ (∀ i, k ≤ i → D i = false) ∧ opsT P ops (ops.toList.drop k) s' K)) (SLx.ext (s' := ⟨part fun _ => false, s.h⟩) (.inl ⟨fun _ _ => rfl, fun _ _ _ _ h => (Bool.false_ne_true h).elim, rfl⟩) (fun n => by
      show getT (tAt ops val s.t ((List.range m).reverse.filter fun _ => false)) n = _
      rw [show (List.range m).reverse.filter (fun _ => false) = [] by simp]; rfl) rfl) (fun D s' hF i p hp hD hall => ?_) fun D s' hall hF => ?_
  · rcases hF with ⟨hF1, hFi, rfl⟩ | ⟨hF1, hF2, hF3, r, h', hPost, rfl⟩ | ⟨k, hk, hk1, hk2, hk3⟩
    · by_cases him : i < m
      · obtain ⟨di, hdi⟩ := Option.isSome_iff_exists.1 (hds i p him hp)
        have hdi' : dstAt ops i = di := by simp [dstAt, hp, hdi]
        refine (chStep_stepT (x := ()) (J' := Jat (i + 1)) (v := val i) hdi (reads_agree hB him hp hall) (h3' i p him hp) (fun he => by rw [hne i p him hp] at he; cases he) fun y hy1 hy2 => ?_).2
        refine SLx.ext (s' := ⟨part (doneAt D i), s.h⟩) (.inl ⟨fun j hj => by simp only [doneAt]; rw [if_neg (by omega)]; exact hF1 j hj, fun k' p' j' hp' hk' hw' => ?_, rfl⟩) (fun n => put_agree hB him hdi' n) rfl
        simp only [doneAt] at hk' ⊢
        split
        · rfl
        · split at hk'
          · rename_i hki
            rw [hki, hp] at hp'
            cases hp'
            exact waits_done hw' hall
          · exact hFi k' p' j' hp' hk' hw'
      · by_cases hie : i = m
        · rw [hie] at hp hD ⊢
          have hpo : p = o := (Option.some.inj (ho.symm.trans hp)).symm
          rw [hpo] at hall ⊢
          have uni := dst_uni hB
          have hg' : o.guard = none := by simpa using hAg
          have hpart : part (doneAt D m) = part D := by
            show tAt ops val s.t ((List.range m).reverse.filter (doneAt D m)) = _
            rw [List.filter_congr fun j hj => show doneAt D m j = D j by simp only [doneAt]; rw [if_neg (by simp at hj; omega)]]
          have hx : ∀ x ∈ opnds o.op, (⟨full, s.h⟩ : TS).ev x = (⟨part D, s.h⟩ : TS).ev x := fun x hx => by
            cases x with
            | tmp t =>
              have htr : t ∈ reads ops o := List.mem_append_left _ (List.mem_filterMap.2 ⟨.tmp t, hx, rfl⟩)
              show getT full t = getT (part D) t
              by_cases hex : ∃ j, j < m ∧ dstAt ops j = t
              · obtain ⟨j, hj, hjt⟩ := hex
                rcases hAr t htr j hj with h5 | h5
                · exact (h5 hjt).elim
                · have hDj := reqs_done hall hFi j (by rw [hAq]; exact h5)
                  rw [getT_tAt (j := j) (by simp [hj]) hjt (fun k hk hkx => uni k j (by simp at hk; omega) hj (hkx.trans hjt.symm)), getT_tAt (j := j) (by simp [hj, hDj]) hjt (fun k hk hkx => uni k j (by simp at hk; omega) hj (hkx.trans hjt.symm))]
              · have hno : ∀ k, k < m → dstAt ops k ≠ t := fun k hk hkx => hex ⟨k, hk, hkx⟩
                rw [getT_tAt_no (fun k hk => hno k (by simp at hk; omega)), getT_tAt_no (fun k hk => hno k (by simp at hk; omega))]
            | const v => rfl
            | global g => rfl
            | func f => rfl
          refine stepT_intro (gs := []) (by unfold guardsOf; rw [hg']) (.inr ⟨qop_eff hAe, ?_⟩)
          simp only [allB, guardE_true, stripS_nil]
          refine effT_K (fun r h' hP => SLx.done (.inr (.inl ⟨by simp [doneAt], fun j hj => ?_, fun j hj hw => ?_, r, h', hP, ?_⟩))) (effT_congr (s := ⟨full, s.h⟩) rfl hAe hx h2)
          · simp only [doneAt]; rw [if_neg (by omega)]; exact hF1 j (by omega)
          · simp only [doneAt]; split; rfl; exact reqs_done hall hFi j (by rw [hAq]; exact hw)
          · rw [hpart]; unfold dl TS.to; cases o.dst <;> rfl
        · have := hprev i p hp (by omega) D hall
          rw [hF1 (i - 1) (by omega)] at this; cases this
    · by_cases him : i < m
      · have uni := dst_uni hB
        obtain ⟨di, hdi⟩ := Option.isSome_iff_exists.1 (hds i p him hp)
        have hdi' : dstAt ops i = di := by simp [dstAt, hp, hdi]
        have hnrq : rq.contains i = false := by
          cases hc : rq.contains i with
          | false => rfl
          | true => rw [hF3 i him hc] at hD; cases hD
        have hst : chStep P ops (fun _ : Unit => h') () p (Jat i) (tAt ops val s.t (List.range i).reverse) fun t2 J2 => t2 = (p.dst.getD 0, val i) :: tAt ops val s.t (List.range i).reverse ∧ J2 = Jat i := by
          cases hfr : freeOp p with
          | true =>
            exact chStep_J (fun t2 J2 hh => hh.1) (hne i p him hp) (qstep_free (h' := h') hfr (h3' i p him hp))
          | false =>
            have := chA_get (val := val) (t0 := s.t) hB (by omega) (ops.toList.take m) 0 (by rw [hlen]; omega) (fun i o hi => by
              rw [Nat.zero_add]
              rw [List.getElem?_take] at hi
              split at hi
              · simpa using hi
              · cases hi) (by simpa only [List.range_zero, List.reverse_nil, show ∀ t, tAt ops val t [] = t from fun _ => rfl] using hPost.1) i p (by rw [List.getElem?_take, if_pos him]; simpa using hp) (by rw [Nat.zero_add, hnrq, hfr]; rfl)
            rw [Nat.zero_add] at this
            exact chStep_J (fun t2 J2 hh => hh) (hne i p him hp) this
        have hdl : ∀ (t : List (Nat × TV)) (x : Nat), (∀ d, o.dst = some d → x ≠ d) → getT (dl o.dst r t) x = getT t x := fun t x hx => by
          unfold dl
          cases hod : o.dst with
          | none => rfl
          | some d => simp only [getT]; rw [if_neg (hx d hod)]
        have hnr : ∀ x ∈ reads ops p, ∀ d, o.dst = some d → x ≠ d := fun x hx d hod => by
          have := (hAd d hod i him).2
          rw [hp] at this
          have := List.all_eq_true.1 this x hx
          simpa using this
        have hned : ∀ d, o.dst = some d → di ≠ d := fun d hod => by rw [← hdi']; exact (hAd d hod i him).1
        refine (chStep_stepT (g := fun _ : Unit => h') (x := ()) (J' := Jat i) (v := val i) hdi (t' := dl o.dst r (part D)) (fun x hx => ?_) hst (fun he => by rw [hne i p him hp] at he; cases he) fun y hy1 hy2 => ?_).2
        · rw [hdl _ x (hnr x hx)]
          exact reads_agree hB him hp hall x hx
        · refine SLx.ext (s' := ⟨dl o.dst r (part (doneAt D i)), h'⟩) (.inr (.inl ⟨?_, fun j hj => ?_, fun j hj hw => ?_, r, h', hPost, rfl⟩)) (fun n => ?_) rfl
          · simp only [doneAt]; split; rfl; exact hF1
          · simp only [doneAt]; rw [if_neg (by omega)]; exact hF2 j hj
          · simp only [doneAt]; split; rfl; exact hF3 j hj hw
          · have := put_agree (t := s.t) (val := val) (D := D) hB him hdi' n
            have e1 : getT (part (doneAt D i)) n = getT ((di, val i) :: part D) n := this
            by_cases h1 : ∃ d, o.dst = some d ∧ n = d
            · obtain ⟨d, hod, rfl⟩ := h1
              simp only [dl, hod, getT]
              rw [if_pos trivial, if_neg (Ne.symm (hned n hod)), if_pos trivial]
            · have h2 : ∀ d, o.dst = some d → n ≠ d := fun d hod hnd => h1 ⟨d, hod, hnd⟩
              simp only
              rw [hdl _ n h2, e1]
              simp only [getT]
              split
              · rfl
              · rw [hdl _ n h2]
      · by_cases hie : i = m
        · rw [hie, hF1] at hD; cases hD
        · have hi1 : i = m + 1 := by
            by_cases h1 : m + 1 < i
            · have := hprev i p hp (by omega) D hall
              rw [hF2 (i - 1) (by omega)] at this; cases this
            · omega
          subst hi1
          have hall2 := hfirst p hp D hall
          rw [hfull D fun j hj => hall2 j (by omega)]
          have hPost := hPost.2
          rw [drop_at (show ops.toList[m + 1]? = some p by simpa using hp)] at hPost
          refine stepT_K (fun s'' hs'' => SLx.done (.inr (.inr ⟨m + 1 + 1, by omega, fun j hj => ?_, fun j hj => ?_, hs''⟩))) hPost
          · simp only [doneAt]; split; rfl; exact hall2 j (by omega)
          · simp only [doneAt]; rw [if_neg (by omega)]; exact hF2 j (by omega)
    · have hi : i = k := by
        by_cases h1 : i < k
        · rw [hk1 i h1] at hD; cases hD
        · by_cases h2 : k < i
          · have := hprev i p hp (by omega) D hall
            rw [hk2 (i - 1) (by omega)] at this; cases this
          · omega
      subst hi
      rw [drop_at (show ops.toList[i]? = some p by simpa using hp)] at hk3
      refine stepT_K (fun s'' hs'' => SLx.done (.inr (.inr ⟨i + 1, by omega, fun j hj => ?_, fun j hj => ?_, hs''⟩))) hk3
      · simp only [doneAt]; split; rfl; exact hk1 j (by omega)
      · simp only [doneAt]; rw [if_neg (by omega)]; exact hk2 j (by omega)
  · rcases hF with ⟨hF1, _, rfl⟩ | ⟨hF1, hF2, hF3, r, h', hPost, rfl⟩ | ⟨k, hk, hk1, hk2, hk3⟩
    · exact absurd (hall m hmlt) (by simp [hF1 m (Nat.le_refl _)])
    · have hsz : ops.size = m + 1 := by
        by_cases h1 : m + 1 < ops.size
        · have := hall (m + 1) h1; rw [hF2 (m + 1) (by omega)] at this; cases this
        · omega
      have : ops.toList.drop (m + 1) = [] := List.drop_eq_nil_of_le (by simp; omega)
      have hPost := hPost.2
      rw [this] at hPost
      rw [hfull D fun i hi => hall i (by omega)]
      exact hPost
    · have hsz : ops.size ≤ k := by
        by_cases h1 : k < ops.size
        · have := hall k h1; rw [hk2 k (Nat.le_refl _)] at this; cases this
        · omega
      have : ops.toList.drop k = [] := List.drop_eq_nil_of_le (by simpa using hsz)
      rw [this] at hk3
      exact hk3

/-- THE SAME, for use: operation m, whose answer is slot d. -/
theorem draw_one {s : TS} {K : TS → Prop} (m d : Nat) (hm : P.follows .mixedOrders = true) (hedge : edgesOk ops = true) (hB : quietB ops m = true) (hA : appB ops m = true) (hd : ((ops[m]?).bind (·.dst) == some d) = true)
    (h : match ops[m]? with | some o => chT P ops (fun _ : Unit => s.h) () (ops.toList.take m) (fun _ => True) s.t fun t1 _ => effT P d o.op ⟨t1, s.h⟩ fun r h' => opsT P ops (ops.toList.drop (m + 1)) ⟨(d, r) :: t1, h'⟩ K | none => False) : drawT P ops s K := by
  cases ho : ops[m]? with
  | none => rw [ho] at h; exact h.elim
  | some o =>
    rw [ho] at h hd
    exact draw_app m d o ho (by simpa using hd) hm hedge hB hA h

/-- Of a block's cells only the first ones are still known. -/
theorem SatH.trim {e : Ent} {E : Env} {h : Heap} {w : World} (H : SatH e E h w) {b ver : Nat} {B : Blk} (hb : getH h b = some (ver, B)) (m : Nat) : SatH e E (setH h b (ver, ⟨B.k, B.cells.take m⟩)) w := by
  refine ⟨H.imm, fun x ver' B' hx => ?_, fun x hx => ?_, H.vers, H.ownd, H.apart, H.gr⟩
  · rw [getH_setH] at hx
    by_cases hxb : x = b
    · subst hxb
      rw [if_pos rfl] at hx
      cases hx
      obtain ⟨R, h1, h2⟩ := H.live x ver B hb
      refine ⟨R, h1, ?_⟩
      rcases h2 with ⟨k0, k1, k2⟩ | ⟨q, k1, k2, k3, k4, k5⟩
      · exact .inl ⟨k0, k1, by simp [k2]⟩
      · exact .inr ⟨q, k1, k2, by simp only [List.length_take]; omega, k4, k5.take m⟩
    · rw [if_neg hxb] at hx
      exact H.live x ver' B' hx
  · rw [getH_setH] at hx
    by_cases hxb : x = b
    · rw [if_pos hxb] at hx; cases hx
    · rw [if_neg hxb] at hx; exact H.dead x hx
theorem VLx.trim {r : TV} {h : Heap} {S : TV → Heap → Prop} (b m : Nat) {ver : Nat} {B : Blk} (hb : getH h b = some (ver, B)) (k : VLx r (setH h b (ver, ⟨B.k, B.cells.take m⟩)) S) : VLx r h S := fun e E w v H hr => k e E w v (H.trim hb m) hr
theorem SLx.trim {s : TS} {S : TS → Prop} (b m : Nat) {ver : Nat} {B : Blk} (hb : getH s.h b = some (ver, B)) (k : SLx ⟨s.t, setH s.h b (ver, ⟨B.k, B.cells.take m⟩)⟩ S) : SLx s S := fun e E w tm H hT => k e E w tm (H.trim hb m) hT
end
end Go.Proofs.YtekmhdiajjfgfaaDoor.TL
