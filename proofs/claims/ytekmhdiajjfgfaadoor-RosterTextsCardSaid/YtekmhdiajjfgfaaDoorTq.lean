/- Own words, part 15: regions whose order is drawn: by a family of states, one for each set of operations that are done. No program is named here. -/
import Derived.Test.YtekmhdiajjfgfaaDoorTo
import Derived.Orders
namespace Go.Proofs.YtekmhdiajjfgfaaDoor.TL
open Go
set_option linter.unusedVariables false
set_option linter.unusedSimpArgs false

section
variable {P : Program} {ops : Array Oper}

def todo (listed : Array Bool) : Nat := (listed.toList.filter (!·)).length

theorem filter_set : ∀ (l : List Bool) (i : Nat), l[i]? = some false → ((l.set i true).filter (!·)).length + 1 = (l.filter (!·)).length
  | b :: l, 0, h => by simp at h; subst h; simp
  | b :: l, i + 1, h => by
    have := filter_set l i (by simpa using h)
    cases b <;> simp [List.filter_cons] <;> omega

theorem todo_set {listed : Array Bool} {i : Nat} (h : listed[i]? = some false) : todo (listed.setIfInBounds i true) + 1 = todo listed := by
  unfold todo
  rw [Array.toList_setIfInBounds]
  exact filter_set _ _ (by simpa using h)

/-- Each operation hangs on earlier ones alone. -/
def edgesOk (ops : Array Oper) : Bool := ops.toList.zipIdx.all fun p => p.1.after.all fun e => !Region.binds .any e || decide (e.on < p.2)

theorem wpAny_family {Q : Exit → Act → World → Prop} (I : Array Bool → Act → World → Prop) (hedge : edgesOk ops = true)
    (step : ∀ listed a w i, listed.size = ops.size → I listed a w → i ∈ Region.ready .any ops listed → wpOp P ops Q i (I (listed.setIfInBounds i true)) a w)
    (fin : ∀ listed a w, listed.size = ops.size → (∀ i, i < ops.size → listed.getD i false = true) → I listed a w → Q .normal a w) :
    ∀ (fuel : Nat) (listed : Array Bool) (a : Act) (w : World), listed.size = ops.size → todo listed ≤ fuel → I listed a w → wpAny P .any ops Q fuel listed a w := by
  have hall : ∀ listed : Array Bool, listed.size = ops.size → Region.ready .any ops listed = [] → ∀ i, i < ops.size → listed.getD i false = true := by
    intro listed hs hr i
    induction i using Nat.strongRecOn with
    | _ i ih =>
      intro hi
      cases hb : listed.getD i false with
      | true => rfl
      | false =>
        exfalso
        have hmem : i ∈ Region.ready .any ops listed := by
          rw [mem_ready]
          refine ⟨?_, ops[i], Array.getElem?_eq_getElem hi, fun e he hbind => ?_⟩
          · have hil : i < listed.size := by omega
            simp [Array.getD, hil] at hb ⊢
            exact hb
          · unfold edgesOk at hedge
            rw [List.all_eq_true] at hedge
            have := hedge (ops[i], i) (List.mem_iff_getElem?.2 ⟨i, by simp [List.getElem?_zipIdx, hi]⟩)
            rw [Array.all_eq_true_iff_forall_mem] at this
            have := this e he
            simp [hbind] at this
            exact ih e.on this (by omega)
        rw [hr] at hmem
        cases hmem
  intro fuel
  induction fuel with
  | zero =>
    intro listed a w hs ht hI
    have hr : Region.ready .any ops listed = [] := by
      cases hr : Region.ready .any ops listed with
      | nil => rfl
      | cons i l =>
        exfalso
        have hm : i ∈ Region.ready .any ops listed := by rw [hr]; exact List.mem_cons_self
        rw [mem_ready] at hm
        have h1 : listed[i]? = some false := by
          have := hm.1
          rw [Array.getD_eq_getD_getElem?] at this
          cases hh : listed[i]? with
          | none => rw [hh] at this; simp at this
          | some b => rw [hh] at this; simp at this; rw [this]
        have := todo_set h1
        omega
    exact ⟨hr, fin _ _ _ hs (hall _ hs hr) hI⟩
  | succ fuel ih =>
    intro listed a w hs ht hI
    refine ⟨fun hr => fin _ _ _ hs (hall _ hs hr) hI, fun i hi => ?_⟩
    refine wpOp_mono (fun a' w' hI' => ih _ _ _ (by simpa using hs) ?_ hI') (step _ _ _ _ hs hI hi)
    rw [mem_ready] at hi
    have h1 : listed[i]? = some false := by
      have := hi.1
      rw [Array.getD_eq_getD_getElem?] at this
      cases hh : listed[i]? with
      | none => rw [hh] at this; simp at this
      | some b => rw [hh] at this; simp at this; rw [this]
    have := todo_set h1
    omega

theorem wpOps_mono {Q Q' : Exit → Act → World → Prop} (h : ∀ e a w, Q e a w → Q' e a w) : ∀ (l : List Nat) (a : Act) (w : World), wpOps P ops Q l a w → wpOps P ops Q' l a w
  | [], a, w, hh => h _ _ _ hh
  | i :: l, a, w, hh => by
    simp only [wpOps] at hh ⊢
    cases ho : ops[i]? with
    | none => simp only [ho] at hh; exact wpOps_mono h l a w hh
    | some o =>
      simp only [ho] at hh ⊢
      split
      · rename_i hw
        simp only [hw, if_true] at hh
        rcases hh with hh | ⟨h1, a', w', h2⟩
        · refine .inl ?_
          unfold Oper.wp at *
          generalize (execOp a.eval o).run P w = r at *
          cases r with
          | ok n w' =>
            cases n <;> simp only [Oper.upon] at hh ⊢ <;> first
              | exact wpOps_mono h l _ _ hh
              | exact Calls.mono hh (fun e w'' he => by
                  cases e with
                  | returned v => exact wpOps_mono h l _ _ he
                  | panicked c => exact h _ _ _ he
                  | outgrown => obtain ⟨a', w', hq⟩ := he; exact ⟨a', w', h _ _ _ hq⟩)
              | exact Rows.mono hh (fun _ _ he => wpOps_mono h l _ _ he)
          | halt x w' => cases x <;> simp only [Oper.upon] at hh ⊢ <;> exact h _ _ _ hh
        · exact .inr ⟨h1, a', w', h _ _ _ h2⟩
      · rename_i hw
        simp only [hw] at hh
        exact wpOps_mono h l _ _ hh

/-- What an operation waits for. -/
def after (D : Nat → Bool) : List Edge → Prop → Prop
  | [], C => C
  | e :: l, C => if Region.binds .any e then D e.on = true → after D l C else after D l C
def doneAt (D : Nat → Bool) (i : Nat) : Nat → Bool := fun k => if k = i then true else D k
/-- A family of states: one for each set of operations done (and each choice of versions). -/
def fam (S : (Nat → Bool) → (Nat → Nat) → TS) (D : Nat → Bool) (s : TS) : Prop := ∃ ν, s = S D ν
def famSteps (P : Program) (ops : Array Oper) (S : (Nat → Bool) → (Nat → Nat) → TS) (D : Nat → Bool) (ν : Nat → Nat) : Nat → List Oper → Prop
  | _, [] => True
  | i, o :: l => (D i = false → after D o.after.toList (stepT P ops o (S D ν) fun s' => SLx s' (fam S (doneAt D i)))) ∧ famSteps P ops S D ν (i + 1) l

theorem after_of {D : Nat → Bool} : ∀ {l : List Edge} {C : Prop}, after D l C → (∀ e ∈ l, Region.binds .any e = true → D e.on = true) → C
  | [], C, h, _ => h
  | e :: l, C, h, hd => by
    simp only [after] at h
    split at h
    · rename_i hb; exact after_of (h (hd e List.mem_cons_self hb)) fun e' he => hd e' (List.mem_cons_of_mem _ he)
    · exact after_of h fun e' he => hd e' (List.mem_cons_of_mem _ he)
theorem famSteps_cons {S : (Nat → Bool) → (Nat → Nat) → TS} {D : Nat → Bool} {ν : Nat → Nat} {k : Nat} {o : Oper} {l : List Oper} : famSteps P ops S D ν k (o :: l) = ((D k = false → after D o.after.toList (stepT P ops o (S D ν) fun s' => SLx s' (fam S (doneAt D k)))) ∧ famSteps P ops S D ν (k + 1) l) := rfl
theorem famSteps_at {S : (Nat → Bool) → (Nat → Nat) → TS} {D : Nat → Bool} {ν : Nat → Nat} (l : List Oper) : ∀ (k i : Nat) (o : Oper), famSteps P ops S D ν k l → l[i]? = some o → D (k + i) = false →
    after D o.after.toList (stepT P ops o (S D ν) fun s' => SLx s' (fam S (doneAt D (k + i)))) := by
  induction l with
  | nil => intro k i o _ hi; simp at hi
  | cons x l ih =>
    intro k i o h hi hD
    rw [famSteps_cons] at h
    obtain ⟨h1, h2⟩ := h
    cases i with
    | zero =>
      rw [List.getElem?_cons_zero, Option.some.injEq] at hi
      subst hi
      rw [Nat.add_zero] at hD ⊢
      exact h1 hD
    | succ i =>
      rw [List.getElem?_cons_succ] at hi
      have e1 : k + 1 + i = k + (i + 1) := by omega
      have := ih (k + 1) i o h2 hi (by rw [e1]; exact hD)
      rw [e1] at this
      exact this

/-- One operation, whatever comes behind it. -/
theorem stepT_wpOp {e : Ent} {E0 E : Env} {s : TS} {nt i : Nat} {df : List Deferred} {o : Oper} {K : TS → Prop} {Q : Exit → Act → World → Prop} {a : Act} {w : World} (hi : ops[i]? = some o) (hd : ∀ d, o.dst = some d → d < nt)
    (h : stepT P ops o s K) (l0 : E0.Le E) (H : SatH e E s.h w) (hT : SatT E s.t a.tmps) (hn : a.tmps.size = nt) (hdf : a.defers = df) :
    wpOp P ops Q i (fun a' w' => ∃ s' E', K s' ∧ E0.Le E' ∧ SatH e E' s'.h w' ∧ SatT E' s'.t a'.tmps ∧ a'.tmps.size = nt ∧ a'.defers = df) a w := by
  -- the region of this operation alone, behind the others
  have next : ∀ r v h' E' w', K (s.to o.dst r h') → E.Le E' → SatH e E' h' w' → RV E' r v → ∃ s' E'', K s' ∧ E0.Le E'' ∧ SatH e E'' s'.h w' ∧ SatT E'' s'.t (a.put o.dst v).tmps ∧ (a.put o.dst v).tmps.size = nt ∧ (a.put o.dst v).defers = df := fun r v h' E' w' k1 k2 k3 k4 => by
    obtain ⟨m1, m2, m3⟩ := put_sat (h' := h') hT k2 hn hd k4
    exact ⟨_, E', k1, l0.trans k2, k3, m1, m2, m3.trans hdf⟩
  unfold wpOp
  simp only [hi]
  unfold stepT at h
  split at h
  · rename_i hg
    have hw : Region.wanted o (yielded ops a.tmps) = true := by simp [Region.wanted, hg]
    rw [if_pos hw]
    refine .inl ?_
    split at h
    · rename_i p hq
      obtain ⟨v, k1, k2⟩ := qop_sound H (ev_sound H.glo hT) hq h.1
      unfold Oper.wp
      rw [k2, Oper.upon_value]
      exact next _ _ _ E w h.2 (Env.Le.refl E) H k1
    · exact effT_wp H (ev_sound H.glo hT) h next
  · rename_i j want hg
    split at h
    · rename_i gs hb
      obtain ⟨x, hx, hgs⟩ := Option.bind_eq_some_iff.1 hb
      obtain ⟨d, hd1, hd2⟩ := Option.map_eq_some_iff.1 hx
      have hbv := hT d
      rw [hd2] at hbv
      have hiff := guard_wanted hgs hbv
      have hw : Region.wanted o (yielded ops a.tmps) = allB gs := by
        have h1 : Region.wanted o (yielded ops a.tmps) = true ↔ a.tmps.getD d undef = .bool want := by
          rw [Array.getD_eq_getD_getElem?]
          simp only [Region.wanted, hg, yielded, hd1, Option.bind_some]
          cases hh : a.tmps[d]? with
          | none => simp [undef]
          | some v => cases v <;> simp
        rw [← hiff] at h1
        cases hA : allB gs <;> cases hB : Region.wanted o (yielded ops a.tmps) <;> simp_all
      rw [hw]
      cases ht : allB gs with
      | true =>
        rw [if_pos rfl]
        refine .inl ?_
        split at h
        · rename_i p hq
          obtain ⟨v, k1, k2⟩ := qop_sound (ρ := a.eval) H (fun x => RV_stripL (ev_sound H.glo hT x) ht) hq (impL_of h.1 ht)
          unfold Oper.wp
          rw [k2, Oper.upon_value]
          exact next _ _ _ E w h.2 (Env.Le.refl E) H (RV_optL (fun _ => k1) fun hf => by rw [ht] at hf; cases hf)
        · rw [ht, guardE_true] at h
          exact effT_wp (s := stripS gs s) H (ev_stripS H.glo hT ht) h next
      | false =>
        rw [if_neg (by simp)]
        split at h
        · exact next _ _ _ E w h.2 (Env.Le.refl E) H (RV_optL (fun hf => by rw [ht] at hf; cases hf) fun _ => rfl)
        · rw [ht, guardE_false] at h
          exact next _ _ _ E w h (Env.Le.refl E) H (RV_optL (fun hf => by rw [ht] at hf; cases hf) fun _ => rfl)
    · exact h.elim

/-- A REGION WHOSE ORDER IS DRAWN, by what holds of the state when some operations are done. -/
theorem draw_F {s : TS} {K : TS → Prop} (hm : P.follows .mixedOrders = true) (hedge : edgesOk ops = true) (F : (Nat → Bool) → TS → Prop)
    (h0 : SLx s (F fun _ => false)) (hstep : ∀ D s', F D s' → ∀ i o, ops[i]? = some o → D i = false → (∀ e ∈ o.after, Region.binds .any e = true → D e.on = true) → stepT P ops o s' fun s'' => SLx s'' (F (doneAt D i)))
    (hend : ∀ D s', (∀ i, i < ops.size → D i = true) → F D s' → K s') : drawT P ops s K := by
  intro nt hdst e E w a H hT hn t
  simp only [Region.schedule, hm, Bool.true_or, if_true]
  unfold Region.linearise
  refine wpAny_sound ops.size t _ a w ?_
  generalize hdf : a.defers = df
  refine wpAny_family (fun listed a w => ∃ s' E', F (fun i => listed.getD i false) s' ∧ E.Le E' ∧ SatH e E' s'.h w ∧ SatT E' s'.t a.tmps ∧ a.tmps.size = nt ∧ a.defers = df) hedge ?_ ?_ _ _ a w (by simp) (by
    unfold todo
    exact Nat.le_trans (List.length_filter_le _ _) (by simp)) ?_
  · rintro listed a1 w1 i hs ⟨s1, E1, hF, l1, H1, hT1, hn1, hd1⟩ hi
    rw [mem_ready] at hi
    obtain ⟨hi0, o, ho, hall⟩ := hi
    have hil : i < ops.size := (Array.getElem?_eq_some_iff.1 ho).1
    have hD : listed.getD i false = false := by
      have hl : i < listed.size := by omega
      simp [Array.getD, hl] at hi0 ⊢
      exact hi0
    refine wpOp_mono (fun a2 w2 hh => ?_) (stepT_wpOp ho (fun d hd => hdst i o d ho hd) (hstep _ s1 hF i o ho hD (fun e he hb => hall e he hb)) l1 H1 hT1 hn1 hd1)
    obtain ⟨s', E2, k1, k2, k3, k4, k5, k6⟩ := hh
    obtain ⟨s3, E3, hF3, l3, H3, hT3⟩ := k1 e E2 w2 a2.tmps k3 k4
    have hfun : (fun k => (listed.setIfInBounds i true).getD k false) = doneAt (fun i => listed.getD i false) i := by
      funext k
      simp only [doneAt]
      by_cases hk : k = i
      · subst hk
        have hl : k < listed.size := by omega
        simp [hl]
      · rw [if_neg hk]
        exact getD_set_ne false (Ne.symm hk)
    rw [hfun]
    exact ⟨s3, E3, hF3, k2.trans l3, H3, hT3, k5, k6⟩
  · rintro listed a1 w1 hs hall ⟨s1, E1, hF, l1, H1, hT1, hn1, hd1⟩
    exact ⟨rfl, s1, E1, hend _ s1 hall hF, l1, H1, hT1, hn1, hd1⟩
  · obtain ⟨s1, E1, hF, l1, H1, hT1⟩ := h0 e E w a.tmps H hT
    have hfun : (fun k => (Array.replicate ops.size false).getD k false) = fun _ => false := by
      funext k
      simp only [Array.getD_eq_getD_getElem?, Array.getElem?_replicate]
      split <;> rfl
    rw [hfun]
    exact ⟨s1, E1, hF, l1, H1, hT1, hn, hdf⟩

/-- The same, by a family of states that is written. -/
theorem draw_family {s : TS} {K : TS → Prop} (hm : P.follows .mixedOrders = true) (hedge : edgesOk ops = true) (S : (Nat → Bool) → (Nat → Nat) → TS)
    (h0 : SLx s (fam S fun _ => false)) (hstep : ∀ D ν, famSteps P ops S D ν 0 ops.toList) (hend : ∀ D ν, (∀ i, i < ops.size → D i = true) → K (S D ν)) : drawT P ops s K := by
  refine draw_F hm hedge (fam S) h0 (fun D s' ⟨ν, hs'⟩ i o ho hD hall => ?_) fun D s' hall ⟨ν, hs'⟩ => hs' ▸ hend D ν hall
  subst hs'
  have := after_of (famSteps_at ops.toList 0 i o (hstep D ν) (by simpa using ho) (by simpa using hD)) (fun e he hb => hall e (by simpa using he) hb)
  simpa using this

/-- Arguments, a heap that say no less than some of S. -/
def CLx (args : List TV) (h : Heap) (S : List TV → Heap → Prop) : Prop := ∀ (e : Ent) (E : Env) (w : World) (f : Nat → Option Value), SatH e E h w → RVl E args f 0 → ∃ args' h' E', S args' h' ∧ args'.length = args.length ∧ E.Le E' ∧ SatH e E' h' w ∧ RVl E' args' f 0
theorem CLx.done {args : List TV} {h : Heap} {S : List TV → Heap → Prop} (hS : S args h) : CLx args h S := fun _ E _ _ h1 h2 => ⟨args, h, E, hS, rfl, Env.Le.refl E, h1, h2⟩
/-- A call, its arguments and blocks seen otherwise first. -/
theorem callT.pre {f : Nat} {args : List TV} {s : TS} {K : TV → Heap → Prop} (hg : ∃ fn, P.funcs[f]? = some fn ∧ (fn.name == "runtime.NumGoroutine") = false ∧ fn.body.isNone = false) (h : CLx args s.h fun args' h' => callT P f args' ⟨[], h'⟩ K) : callT P f args s K :=
  ⟨hg, fun e E w vs H hl hv => by
    obtain ⟨args', h', E1, hc, hlen, l1, H1, hv1⟩ := h e E w _ H hv
    refine (hc.2 e E1 w vs H1 (by rw [hlen]; exact hl) hv1).mono fun en w1 ⟨v, r, h2, E2, hen, hQ, l2, H2, hr⟩ => ⟨v, r, h2, E2, hen, hQ, l1.trans l2, H2, hr⟩⟩

/-- A nil slice in a block's cell as a slice of a block without memory. -/
theorem CLx.nilCell {args : List TV} {h : Heap} {S : List TV → Heap → Prop} (i j b k : Nat) {ver : Nat} {B : Blk} (hk : k ≠ 0) (hbi : b ≠ i) (hi : getH h i = some (ver, B)) (hj : B.cells[j]? = some (.v (.slice none 0 0)))
    (n : ∀ v, CLx args (setH (setH h b (v, ⟨k, []⟩)) i (ver, ⟨B.k, B.cells.set j (.sl b v 0 0)⟩)) S) : CLx args h S := fun e E w f H hv => by
  have H1 := H.nil b k hk
  have hle := H.le_slot b none
  have hi1 : getH (setH h b (E.c + 1, ⟨k, []⟩)) i = some (ver, B) := by rw [getH_setH, if_neg (Ne.symm hbi)]; exact hi
  have H2 : SatH e (E.slot b none) (setH (setH h b (E.c + 1, ⟨k, []⟩)) i (ver, ⟨B.k, B.cells.set j (.sl b (E.c + 1) 0 0)⟩)) w := by
    refine ⟨H1.imm, fun x ver' B' hx => ?_, fun x hx => ?_, H1.vers, H1.ownd, H1.apart, H1.gr⟩
    · rw [getH_setH] at hx
      by_cases hxi : x = i
      · subst hxi
        rw [if_pos rfl] at hx
        cases hx
        obtain ⟨R, hR, hB⟩ := H1.live x ver B hi1
        refine ⟨R, hR, ?_⟩
        rcases hB with ⟨_, _, b3⟩ | ⟨q, b1, b2, b3, b4, b5⟩
        · rw [b3] at hj; simp at hj
        · refine .inr ⟨q, b1, b2, by simpa using b3, b4, RVl.of fun y z hz => ?_⟩
          rw [List.getElem?_set] at hz
          split at hz
          · rename_i hy
            subst hy
            obtain ⟨v, v1, v2⟩ := b5.get _ _ hj
            simp only [RV] at v2
            subst v2
            split at hz
            · cases hz; exact ⟨_, v1, nil_new (s := ⟨[], h⟩) H⟩
            · cases hz
          · exact b5.get _ _ hz
      · rw [if_neg hxi] at hx
        exact H1.live x ver' B' hx
    · rw [getH_setH] at hx
      by_cases hxi : x = i
      · rw [if_pos hxi] at hx; cases hx
      · rw [if_neg hxi] at hx; exact H1.dead x hx
  obtain ⟨args', h', E', a, hl, l, c, d⟩ := n (E.c + 1) e _ w f H2 (RVl.mono hle _ _ _ _ (fun _ _ x => x) hv)
  exact ⟨args', h', E', a, hl, hle.trans l, c, d⟩

/-- A block never changes any more. -/
theorem CLx.frz {args : List TV} {h : Heap} {S : List TV → Heap → Prop} (b : Nat) {ver : Nat} {B : Blk} (hb : getH h b = some (ver, B)) (k : CLx (frzL b ver B args) (delH h b) S) : CLx args h S := fun e E w f H hv => by
  obtain ⟨k1, k2⟩ := RVl_frz H hb args f 0 hv
  obtain ⟨args', h', E', a, hl, l, c, d⟩ := k e _ w f (H.frz b) k2
  exact ⟨args', h', E', a, by rw [hl, k1], (H.le_frz b).trans l, c, d⟩

/- States of a family, written: what is there if it was done. -/
def onD {α : Type} (D : Nat → Bool) : List (Nat × α) → List α
  | [] => []
  | (i, x) :: l => if D i then x :: onD D l else onD D l

theorem getT_onD {D : Nat → Bool} {i d n : Nat} {x : TV} {l : List (Nat × Nat × TV)} {b : List (Nat × TV)} : getT (onD D ((i, d, x) :: l) ++ b) n = if n = d then (if D i then x else getT (onD D l ++ b) n) else getT (onD D l ++ b) n := by
  simp only [onD]
  cases D i
  · simp
  · by_cases h : n = d <;> simp [getT, h]
theorem all_onD {α : Type} {D : Nat → Bool} {i : Nat} {x : α} {l : List (Nat × α)} {φ : α → Prop} : (∀ p ∈ onD D ((i, x) :: l), φ p) ↔ (D i = true → φ x) ∧ ∀ p ∈ onD D l, φ p := by
  simp only [onD]
  cases D i <;> simp
end
end Go.Proofs.YtekmhdiajjfgfaaDoor.TL
