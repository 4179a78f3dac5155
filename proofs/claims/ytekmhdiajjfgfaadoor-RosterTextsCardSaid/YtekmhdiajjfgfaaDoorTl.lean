/- Own words, part 10: code: what must hold of a state so that the code goes on to what Q says; a function's call out of its code. No program is named here. -/
import Derived.Test.YtekmhdiajjfgfaaDoorTk
namespace Go.Proofs.YtekmhdiajjfgfaaDoor.TL
open Go
set_option linter.unusedVariables false
set_option linter.unusedSimpArgs false

/-- A region whose order is drawn. -/
def drawT (P : Program) (ops : Array Oper) (s : TS) (K : TS → Prop) : Prop :=
  ∀ (nt : Nat), (∀ (i : Nat) (o : Oper) (d : Nat), ops[i]? = some o → o.dst = some d → d < nt) → ∀ (e : Ent) (E : Env) (w : World) (a : Act), SatH e E s.h w → SatT E s.t a.tmps → a.tmps.size = nt →
    ∀ t, wpOps P ops (Behind e E nt a.defers K) (Region.schedule (P.follows .mixedOrders) ops t) a w

inductive TX where
  | normal
  | exit (i : Nat)
  | ret

def keepT (keep : List Nat) (s : TS) : TS := { s with t := s.t.filter fun p => keep.contains p.1 }

/-- A state says no less than one of the states S. -/
def SLx (s : TS) (S : TS → Prop) : Prop := ∀ (e : Ent) (E : Env) (w : World) (tmps : Array Value), SatH e E s.h w → SatT E s.t tmps → ∃ s' E', S s' ∧ E.Le E' ∧ SatH e E' s'.h w ∧ SatT E' s'.t tmps
theorem SLx.done {s : TS} {S : TS → Prop} (h : S s) : SLx s S := fun _ E _ _ h1 h2 => ⟨s, E, h, Env.Le.refl E, h1, h2⟩
theorem SLx.step {s1 : TS} {S : TS → Prop} (k : SLx s1 S) {e : Ent} {E E1 : Env} {w : World} {tmps : Array Value} (l : E.Le E1) (h1 : SatH e E1 s1.h w) (h2 : SatT E1 s1.t tmps) : ∃ s' E', S s' ∧ E.Le E' ∧ SatH e E' s'.h w ∧ SatT E' s'.t tmps :=
  let ⟨s', E', a, b, c, d⟩ := k e E1 w tmps h1 h2
  ⟨s', E', a, l.trans b, c, d⟩

def thenT (A : TS → Prop) (Q : TX → TS → Prop) : TX → TS → Prop
  | .normal, s => A s
  | e, s => Q e s
def inBlk (i : Nat) (Q : TX → TS → Prop) : TX → TS → Prop
  | .exit j, s => if j = i then Q .normal s else Q (.exit j) s
  | e, s => Q e s
def condT (c : TV) (A B : Prop) : Prop :=
  match c with
  | .v (.bool t) => (t = true → A) ∧ (t = false → B)
  | _ => False

/-- A state of the loop's head, of a smaller number. -/
def again {X : Type} (J : X → Prop) (S : X → TS) (μ : X → Nat) (n : Nat) (s : TS) : Prop := ∃ y, J y ∧ μ y < n ∧ s = S y

/-- A loop, by states that come at its head: of each x one (where J holds of x), and a number that goes down. -/
def loopT (W : (TX → TS → Prop) → TS → Prop) (Q : TX → TS → Prop) (s : TS) : Prop :=
  ∃ (X : Type) (J : X → Prop) (S : X → TS) (μ : X → Nat), SLx s (fun s' => ∃ x, J x ∧ s' = S x) ∧ ∀ x, J x → W (thenT (fun s' => SLx s' (again J S μ (μ x))) Q) (S x)

def wpT (P : Program) (keep : List Nat) : Code → (TX → TS → Prop) → TS → Prop
  | .skip, Q, s => Q .normal s
  | .region _ ops d, Q, s => if d then drawT P ops s fun s' => Q .normal (keepT keep s') else opsT P ops ops.toList s fun s' => Q .normal (keepT keep s')
  | .seq a b, Q, s => wpT P keep a (thenT (wpT P keep b Q) Q) s
  | .cond c a b, Q, s => condT (s.ev c) (wpT P keep a Q s) (wpT P keep b Q s)
  | .block i a, Q, s => wpT P keep a (inBlk i Q) s
  | .loop a, Q, s => loopT (wpT P keep a) Q s
  | .exit i, Q, s => Q (.exit i) s
  | .ret, Q, s => Q .ret s
  | _, _, _ => False

def okC (nt : Nat) : Code → Bool
  | .skip | .exit _ | .ret => true
  | .region _ ops _ => ops.all fun o => match o.dst with | some d => decide (d < nt) | none => true
  | .seq a b => okC nt a && okC nt b
  | .cond _ a b => okC nt a && okC nt b
  | .block _ a | .loop a => okC nt a
  | _ => false

def exRel : TX → Exit → Prop
  | .normal, e => e = .normal
  | .exit i, e => e = .exit i
  | .ret, e => e = .ret

/-- What is there behind code. -/
def After (e : Ent) (E : Env) (nt : Nat) (df : List Deferred) (Q : TX → TS → Prop) (ex : Exit) (a' : Act) (w' : World) : Prop :=
  ∃ tx s' E', exRel tx ex ∧ Q tx s' ∧ E.Le E' ∧ SatH e E' s'.h w' ∧ SatT E' s'.t a'.tmps ∧ a'.tmps.size = nt ∧ a'.defers = df

theorem getT_filter (keep : List Nat) (t : List (Nat × TV)) (n : Nat) : getT (t.filter fun p => keep.contains p.1) n = getT t n ∨ getT (t.filter fun p => keep.contains p.1) n = .any := by
  induction t with
  | nil => exact .inl rfl
  | cons p l ih =>
    obtain ⟨k, x⟩ := p
    by_cases hk : keep.contains k = true
    · simp only [List.filter_cons, hk, if_true, getT]
      by_cases hn : n = k
      · simp [hn]
      · simp only [if_neg hn]; exact ih
    · simp only [List.filter_cons, hk, getT]
      by_cases hn : n = k
      · subst hn
        refine .inr ?_
        have : ∀ l : List (Nat × TV), getT (l.filter fun p => keep.contains p.1) n = .any := fun l => by
          induction l with
          | nil => rfl
          | cons q l ih2 =>
            obtain ⟨m, y⟩ := q
            by_cases hm : keep.contains m = true
            · simp only [List.filter_cons, hm, if_true, getT]
              by_cases hnm : n = m
              · subst hnm; exact absurd hm hk
              · simp only [if_neg hnm]; exact ih2
            · simp only [List.filter_cons, hm]; exact ih2
        exact this l
      · simp only [if_neg hn]; exact ih

theorem SatT.keep {E : Env} {t : List (Nat × TV)} {tmps : Array Value} (h : SatT E t tmps) (keep : List Nat) : SatT E (t.filter fun p => keep.contains p.1) tmps := fun n => by
  rcases getT_filter keep t n with hh | hh
  · rw [hh]; exact h n
  · rw [hh]; simp only [RV]

/-- A loop, by what holds at its head for a number that goes down. -/
theorem wp_loop_down {P : Program} {c : Code} {Q : Exit → Act → World → Prop} (I : Nat → Act → World → Prop) (round : ∀ n a w, I n a w → c.wp P (Exit.then (fun a' w' => ∃ m, m < n ∧ I m a' w') Q) a w) :
    ∀ n a w, I n a w → (Code.loop c).wp P Q a w := by
  intro n a w hI b k cs
  have key : ∀ n a w, I n a w → ∃ e a' w', Q e a' w' ∧ Arrives P (lone (b.at a (.code c :: .inLoop c :: k)) cs w) b k cs e a' w' := by
    intro n
    induction n using Nat.strongRecOn with
    | _ n ih =>
      intro a w hI
      obtain ⟨e, a₁, w₁, hq, harr⟩ := round n a w hI b (.inLoop c :: k) cs
      cases e with
      | normal =>
        obtain ⟨m, hm, hI₁⟩ := hq
        obtain ⟨e₂, a₂, w₂, hq₂, harr₂⟩ := ih m hm a₁ w₁ hI₁
        exact ⟨e₂, a₂, w₂, hq₂, .of_steps (Steps.trans harr (.one step_inLoop)) harr₂⟩
      | exit id => exact ⟨_, a₁, w₁, hq, .pass (x := .inLoop c) rfl (fun _ _ => .inl (by simp)) harr⟩
      | goto l => exact ⟨_, a₁, w₁, hq, .pass (x := .inLoop c) rfl (fun _ _ => .inl (by simp)) harr⟩
      | ret => exact ⟨_, a₁, w₁, hq, .pass (x := .inLoop c) rfl (fun _ _ => .inl (by simp)) harr⟩
      | panic ch => exact ⟨_, a₁, w₁, hq, .pass (x := .inLoop c) rfl (fun _ _ => .inl (by simp)) harr⟩
      | outgrown => exact ⟨_, a₁, w₁, hq, .pass (x := .inLoop c) rfl (fun _ _ => .inl (by simp)) harr⟩
  obtain ⟨e, a', w', hq, harr⟩ := key n a w hI
  exact ⟨e, a', w', hq, .of_steps (.one step_loop) harr⟩

theorem wpT_sound {P : Program} {keep : List Nat} {nt : Nat} {e : Ent} {df : List Deferred} : ∀ (c : Code), okC nt c = true → ∀ (Q : TX → TS → Prop) (s : TS) (E : Env) (w : World) (a : Act),
    wpT P keep c Q s → SatH e E s.h w → SatT E s.t a.tmps → a.tmps.size = nt → a.defers = df → c.wp P (After e E nt df Q) a w
  | .skip, _, Q, s, E, w, a, h, H, hT, hn, hd => wp_skip ⟨.normal, s, E, rfl, h, Env.Le.refl E, H, hT, hn, hd⟩
  | .exit i, _, Q, s, E, w, a, h, H, hT, hn, hd => wp_exit ⟨.exit i, s, E, rfl, h, Env.Le.refl E, H, hT, hn, hd⟩
  | .ret, _, Q, s, E, w, a, h, H, hT, hn, hd => wp_ret ⟨.ret, s, E, rfl, h, Env.Le.refl E, H, hT, hn, hd⟩
  | .region id ops d, hok, Q, s, E, w, a, h, H, hT, hn, hd => by
    have hdst : ∀ (i : Nat) (o : Oper) (d : Nat), ops[i]? = some o → o.dst = some d → d < nt := fun i o d hi hd => by
      simp only [okC] at hok
      rw [Array.all_eq_true_iff_forall_mem] at hok
      have := hok o (Array.mem_of_getElem? hi)
      simpa [hd] using this
    have fin : ∀ ex a' w', Behind e E nt df (fun s' => Q .normal (keepT keep s')) ex a' w' → After e E nt df Q ex a' w' := fun ex a' w' ⟨h1, s', E', h2, h3, h4, h5, h6, h7⟩ =>
      ⟨.normal, _, E', h1, h2, h3, h4, h5.keep keep, h6, h7⟩
    simp only [wpT] at h
    cases d with
    | false =>
      simp only [Bool.false_eq_true, if_false] at h
      have hl : ((List.range ops.size).filterMap fun i => ops[i]?) = ops.toList := by
        apply List.ext_getElem?
        intro j
        have : ∀ n, ((List.range n).filterMap fun i => ops[i]?) = (ops.toList.take n) := fun n => by
          induction n with
          | zero => simp
          | succ n ih =>
            rw [List.range_succ, List.filterMap_append, ih, List.take_add_one]
            congr 1
            cases hh : ops[n]? with
            | none => simp [hh]
            | some o => simp [hh]
        rw [this, List.take_of_length_le (by simp)]
      have := opsT_sound (P := P) (E0 := E) hdst (List.range ops.size) s E a w (by rw [hl]; exact h) (Env.Le.refl E) H hT hn hd
      exact wp_mono (wp_region this) fun ex a' w' hh => fin ex a' w' hh
    | true =>
      simp only [if_true] at h
      exact wp_mono (wp_region_draw fun t => h nt hdst e E { w with drawn := w.drawn + 1 } a H.drew hT hn t) fun ex a' w' hh => fin ex a' w' (hd ▸ hh)
  | .seq x y, hok, Q, s, E, w, a, h, H, hT, hn, hd => by
    simp only [okC, Bool.and_eq_true] at hok
    refine wp_seq (wp_mono (wpT_sound x hok.1 _ s E w a h H hT hn hd) fun ex a' w' hh => ?_)
    obtain ⟨tx, s', E', h1, h2, h3, h4, h5, h6, h7⟩ := hh
    cases tx with
    | normal =>
      cases h1
      refine wp_mono (wpT_sound y hok.2 Q s' E' w' a' h2 h4 h5 h6 h7) fun ex a'' w'' ⟨tx, s'', E'', k1, k2, k3, k4⟩ => ⟨tx, s'', E'', k1, k2, h3.trans k3, k4⟩
    | exit i => cases h1; exact ⟨.exit i, s', E', rfl, h2, h3, h4, h5, h6, h7⟩
    | ret => cases h1; exact ⟨.ret, s', E', rfl, h2, h3, h4, h5, h6, h7⟩
  | .cond c x y, hok, Q, s, E, w, a, h, H, hT, hn, hd => by
    simp only [okC, Bool.and_eq_true] at hok
    simp only [wpT, condT] at h
    have hc := ev_sound H.glo hT c
    split at h
    · rename_i t ht
      rw [ht] at hc
      simp only [RV] at hc
      exact wp_cond_split hc (fun hh => wpT_sound x hok.1 Q s E w a (h.1 hh) H hT hn hd) (fun hh => wpT_sound y hok.2 Q s E w a (h.2 hh) H hT hn hd)
    · exact h.elim
  | .block i x, hok, Q, s, E, w, a, h, H, hT, hn, hd => by
    simp only [okC] at hok
    refine wp_block (wp_mono (wpT_sound x hok _ s E w a h H hT hn hd) fun ex a' w' ⟨tx, s', E', h1, h2, h3⟩ => ?_)
    cases tx with
    | normal => cases h1; exact ⟨.normal, s', E', rfl, h2, h3⟩
    | exit j =>
      cases h1
      simp only [inBlk] at h2
      simp only [Exit.inBlock]
      by_cases hj : j = i
      · rw [if_pos hj] at h2 ⊢; exact ⟨.normal, s', E', rfl, h2, h3⟩
      · rw [if_neg hj] at h2 ⊢; exact ⟨.exit j, s', E', rfl, h2, h3⟩
    | ret => cases h1; exact ⟨.ret, s', E', rfl, h2, h3⟩
  | .loop x, hok, Q, s, E, w, a, h, H, hT, hn, hd => by
    simp only [okC] at hok
    obtain ⟨X, J, S, μ, hS0, hround⟩ := h
    obtain ⟨_, E', ⟨x0, hJ0, rfl⟩, l1, H', hT'⟩ := hS0 e E w a.tmps H hT
    refine wp_loop_down (fun n a' w' => ∃ y E', J y ∧ n = μ y ∧ E.Le E' ∧ SatH e E' (S y).h w' ∧ SatT E' (S y).t a'.tmps ∧ a'.tmps.size = nt ∧ a'.defers = df) ?_ (μ x0) a w ⟨x0, E', hJ0, rfl, l1, H', hT', hn, hd⟩
    rintro n a1 w1 ⟨y, E1, hJ1, rfl, l2, H1, hT1, hn1, hd1⟩
    refine wp_mono (wpT_sound x hok _ (S y) E1 w1 a1 (hround y hJ1) H1 hT1 hn1 hd1) fun ex a2 w2 ⟨tx, s2, E2, h1, h2, l3, H2, hT2, hn2, hd2⟩ => ?_
    cases tx with
    | normal =>
      cases h1
      obtain ⟨_, E3, ⟨z, hJ2, hlt, rfl⟩, l4, H3, hT3⟩ := h2 e E2 w2 a2.tmps H2 hT2
      exact ⟨μ z, hlt, z, E3, hJ2, rfl, l2.trans (l3.trans l4), H3, hT3, hn2, hd2⟩
    | exit j => cases h1; exact ⟨.exit j, s2, E2, rfl, h2, l2.trans l3, H2, hT2, hn2, hd2⟩
    | ret => cases h1; exact ⟨.ret, s2, E2, rfl, h2, l2.trans l3, H2, hT2, hn2, hd2⟩
  | .rangeFunc .., hok, _, _, _, _, _, _, _, _, _, _ => by simp [okC] at hok
  | .scope _, hok, _, _, _, _, _, _, _, _, _, _ => by simp [okC] at hok
  | .label _, hok, _, _, _, _, _, _, _, _, _, _ => by simp [okC] at hok
  | .goto _, hok, _, _, _, _, _, _, _, _, _, _ => by simp [okC] at hok
  | .refuse _, hok, _, _, _, _, _, _, _, _, _, _ => by simp [okC] at hok

end Go.Proofs.YtekmhdiajjfgfaaDoor.TL
