/- Own words, part 11: a function's call out of its code; a call's contract used where its blocks bear other numbers. No program is named here. -/
import Derived.Test.YtekmhdiajjfgfaaDoorTl
namespace Go.Proofs.YtekmhdiajjfgfaaDoor.TL
open Go
set_option linter.unusedVariables false
set_option linter.unusedSimpArgs false

def argsT (args : List TV) : List (Nat × TV) := args.zipIdx.map fun p => (p.2, p.1)

theorem getT_args (args : List TV) (n : Nat) : getT (argsT args) n = args.getD n .any := by
  have key : ∀ (args : List TV) (k n : Nat), getT ((args.zipIdx k).map fun p => (p.2, p.1)) n = if k ≤ n then args.getD (n - k) .any else .any := by
    intro args
    induction args with
    | nil => intro k n; simp [getT]
    | cons x l ih =>
      intro k n
      simp only [List.zipIdx_cons, List.map_cons, getT, ih]
      by_cases h : n = k
      · subst h; simp
      · rw [if_neg h]
        by_cases h2 : k ≤ n
        · rw [if_pos (by omega), if_pos h2, show n - k = (n - (k + 1)) + 1 by omega]; simp
        · rw [if_neg (by omega), if_neg h2]
  simpa [argsT] using key args 0 n

/-- A function's results. -/
def resOne (P : Program) (s : TS) : ResultVar → PT
  | .tmp t => (True, getT s.t t)
  | .cell a t => qload P s t (getT s.t a)
def resL (P : Program) (s : TS) : List ResultVar → Prop × List TV
  | [] => (True, [])
  | r :: l => ((resOne P s r).1 ∧ (resL P s l).1, (resOne P s r).2 :: (resL P s l).2)
def oneT : List TV → TV
  | [x] => x
  | l => .tup l
def restH (ids : List Nat) (h : Heap) : Heap := h.filter fun p => ids.contains p.1
def retT (P : Program) (rs : List ResultVar) (ids : List Nat) (K : TV → Heap → Prop) : TX → TS → Prop
  | .exit _, _ => False
  | _, s => (resL P s rs).1 ∧ K (oneT (resL P s rs).2) (restH ids s.h)

theorem getH_restH (ids : List Nat) (h : Heap) (n : Nat) : getH (restH ids h) n = if ids.contains n then getH h n else none := by
  induction h with
  | nil => simp [restH, getH]
  | cons p l ih =>
    obtain ⟨k, x⟩ := p
    simp only [restH] at ih
    simp only [restH, List.filter_cons]
    by_cases hk : ids.contains k = true
    · rw [if_pos hk]
      simp only [getH, ih]
      by_cases hn : n = k
      · subst hn; rw [if_pos rfl, if_pos rfl, if_pos hk]
      · rw [if_neg hn, if_neg hn]
    · rw [if_neg hk, ih]
      by_cases hn : n = k
      · subst hn; rw [if_neg hk, if_neg hk]
      · simp only [getH, if_neg hn]

def resSem (tmps : Array Value) : ResultVar → Sem Value
  | .tmp t => pure (tmps.getD t undef)
  | .cell a t => do loadVar t (← asAddr (tmps.getD a undef))

section
variable {P : Program} {e : Ent} {E : Env} {s : TS} {w : World}

def Env.rest (E : Env) (ids : List Nat) : Env := { E with ρ := fun x => if ids.contains x then E.ρ x else none }
theorem Env.le_rest (E : Env) (ids : List Nat) : E.Le (E.rest ids) := ⟨Nat.le_refl _, fun _ _ _ x => x, fun x ver R hx _ => by
  simp only [Env.rest] at hx
  split at hx
  · exact hx
  · cases hx⟩
theorem SatH.rest {h : Heap} (H : SatH e E h w) (ids : List Nat) : SatH e (E.rest ids) (restH ids h) w := by
  have hρ : ∀ x y, (E.rest ids).ρ x = some y → E.ρ x = some y := fun x y hx => by
    simp only [Env.rest] at hx
    split at hx
    · exact hx
    · cases hx
  refine ⟨H.imm, fun x ver B hx => ?_, fun x hx => ?_, fun x ver R hx => H.vers x ver R (hρ _ _ hx), fun x ver q hx => H.ownd x ver q (hρ _ _ hx), fun x y ver ver' q q' hx hy => H.apart x y ver ver' q q' (hρ _ _ hx) (hρ _ _ hy), ?_⟩
  · rw [getH_restH] at hx
    split at hx
    · rename_i hc
      obtain ⟨R, h1, h2⟩ := H.live x ver B hx
      exact ⟨R, by simp only [Env.rest]; rw [if_pos hc]; exact h1, h2.mono (Env.le_rest E ids) fun _ _ _ => ⟨rfl, rfl⟩⟩
    · cases hx
  · rw [getH_restH] at hx
    simp only [Env.rest]
    split
    · rename_i hc; rw [if_pos hc] at hx; exact H.dead x hx
    · rfl
  · exact ⟨H.gr.size, H.gr.frame, H.gr.os, H.gr.tape, H.gr.output, H.gr.le.trans (Env.le_rest E ids), H.gr.newI⟩

theorem resOne_sound {tmps : Array Value} (H : SatH e E s.h w) (hT : SatT E s.t tmps) {r : ResultVar} (h : (resOne P s r).1) :
    ∃ v, RV E (resOne P s r).2 v ∧ (resSem tmps r).run P w = .ok v w := by
  cases r with
  | tmp t => exact ⟨_, hT t, rfl⟩
  | cell a t =>
    simp only [resOne] at h ⊢
    obtain ⟨r, v, rfl, h2, h3⟩ := loadT_sound H (hT a) (qload_ok P s h)
    refine ⟨v, h2, ?_⟩
    have hl := qload_ok P s h
    obtain ⟨_, _, ha⟩ := hl
    obtain ⟨rr, o, cells, hy, _, _⟩ := addrCells_sound H (hT a) ha
    rw [hy] at h3
    simpa [resSem, hy, Instr.loadAt, Instr.sureAddr, asAddr] using h3

theorem resL_sound {tmps : Array Value} (H : SatH e E s.h w) (hT : SatT E s.t tmps) : ∀ (rs : List ResultVar), (resL P s rs).1 →
    ∃ vs : List Value, vs.length = rs.length ∧ (resL P s rs).2.length = rs.length ∧ RVl E (resL P s rs).2 (fun i => vs[i]?) 0 ∧
      (rs.mapM (resSem tmps)).run P w = .ok vs w
  | [], _ => ⟨[], rfl, rfl, by simp only [resL, RVl], by simp⟩
  | r :: rs, h => by
    simp only [resL] at h ⊢
    obtain ⟨v, h1, h2⟩ := resOne_sound H hT h.1
    obtain ⟨vs, k1, k2, k3, k4⟩ := resL_sound H hT rs h.2
    refine ⟨v :: vs, by simp [k1], by simp [k2], ?_, ?_⟩
    · simp only [RVl]
      refine ⟨⟨v, rfl, h1⟩, RVl.of fun j x hx => ?_⟩
      obtain ⟨u, u1, u2⟩ := k3.get j x hx
      refine ⟨u, ?_, u2⟩
      rw [← u1, Nat.add_comm 0 1, Nat.add_comm 1 j, Nat.zero_add]
      simp
    · simp only [List.mapM_cons, Sem.run_bind, h2, Result.andThen_ok, k4, Sem.run_pure]

theorem results_sound {fn : Func} {tmps : Array Value} (H : SatH e E s.h w) (hT : SatT E s.t tmps) (h : (resL P s fn.results.toList).1) :
    ∃ v, RV E (oneT (resL P s fn.results.toList).2) v ∧ (results fn tmps).run P w = .ok v w := by
  obtain ⟨vs, k1, k2, k3, k4⟩ := resL_sound H hT fn.results.toList h
  have hm : (fn.results.mapM (resSem tmps)).run P w = .ok vs.toArray w := by
    rw [Array.mapM_eq_mapM_toList]
    simp only [Sem.run_map, k4, Result.andThen_ok]
  unfold results
  rw [Sem.run_bind]
  have : ∀ (f : ResultVar → Sem Value), f = resSem tmps → (fn.results.mapM f).run P w = .ok vs.toArray w := fun f hf => by rw [hf]; exact hm
  rw [this _ (by funext r; cases r <;> rfl)]
  simp only [Result.andThen_ok, Sem.run_pure]
  generalize (resL P s fn.results.toList).2 = l at k2 k3
  match l, vs, k1, k2, k3 with
  | [x], [v], _, _, h3 => exact ⟨v, by simp only [oneT]; simpa [RVl] using h3, by simp⟩
  | [], [], _, _, h3 => exact ⟨.tuple #[], by simp only [oneT, RV]; exact ⟨[], rfl, rfl, h3⟩, by simp⟩
  | x :: y :: l, v :: u :: vs, e1, e2, h3 => exact ⟨.tuple (v :: u :: vs).toArray, by simp only [oneT, RV]; exact ⟨_, rfl, by simp at e1 e2 ⊢; omega, h3⟩, by simp⟩
  | [], _ :: _, e1, e2, _ => simp at e1 e2; omega
  | _ :: _, [], e1, e2, _ => simp at e1 e2; omega
  | [x], _ :: _ :: _, e1, e2, _ => simp at e1 e2; omega
  | _ :: _ :: _, [_], e1, e2, _ => simp at e1 e2; omega

/-- A CALL OUT OF THE FUNCTION's CODE. -/
theorem callT_of_body {f : Nat} {fn : Func} {code : Code} {args : List TV} {h0 : Heap} {K : TV → Heap → Prop} (keep ids : List Nat) (hf : P.funcs[f]? = some fn) (hb : fn.body = some code) (hnm : (fn.name == "runtime.NumGoroutine") = false)
    (hok : okC fn.ntmps code = true) (hnt : decide (args.length ≤ fn.ntmps) = true) (h : wpT P keep code (retT P fn.results.toList ids K) ⟨argsT args, h0⟩) : callT P f args ⟨[], h0⟩ K := by
  refine ⟨⟨fn, hf, hnm, by rw [hb]; rfl⟩, fun e E w vs H hl hv => ?_⟩
  refine calls_of_wp hf hb ?_
  have hnt := of_decide_eq_true hnt
  have hsz : (vs.toArray ++ Array.replicate (fn.ntmps - vs.toArray.size) undef).size = fn.ntmps := by simp; omega
  refine wp_mono (wpT_sound (e := e) (df := []) code hok _ _ E w _ h H (fun n => ?_) hsz rfl) fun ex a' w' ⟨tx, s', E', h1, h2, l1, H1, hT1, hn1, hd1⟩ => ?_
  · rw [getT_args]
    by_cases hn : n < args.length
    · obtain ⟨v, k1, k2⟩ := hv.get n args[n] (List.getElem?_eq_getElem hn)
      have : (vs.toArray ++ Array.replicate (fn.ntmps - vs.toArray.size) undef).getD n undef = v := by
        rw [Array.getD_eq_getD_getElem?, Array.getElem?_append_left (by simp; omega)]
        simp at k1
        simp [k1]
      rw [this]
      simpa [List.getD, hn] using k2
    · have : args.getD n .any = TV.any := by simp [List.getD, List.getElem?_eq_none (Nat.le_of_not_lt hn)]
      rw [this]; simp only [RV]
  · have fin : (resL P s' fn.results.toList).1 ∧ K (oneT (resL P s' fn.results.toList).2) (restH ids s'.h) → ∃ v, (results fn a'.tmps).run P w' = .ok v w' ∧ ∃ v' r h' E', Ending.returned v = .returned v' ∧ K r h' ∧ E.Le E' ∧ SatH e E' h' w' ∧ RV E' r v' := fun ⟨k1, k2⟩ => by
      obtain ⟨v, k3, k4⟩ := results_sound H1 hT1 k1
      exact ⟨v, k4, v, _, _, _, rfl, k2, l1.trans (Env.le_rest E' ids), H1.rest ids, RV.mono (Env.le_rest E' ids) _ _ k3⟩
    cases tx with
    | normal => cases h1; exact ⟨hd1, fin h2⟩
    | ret => cases h1; exact ⟨hd1, fin h2⟩
    | exit i => exact h2.elim
end

/- Other numbers. -/
mutual
def renT (τ : Nat → Option Nat) : TV → TV
  | .at b ver o => match τ b with | some j => .at j ver o | none => .any
  | .sl b ver o n => match τ b with | some j => .sl j ver o n | none => .any
  | .agg l => .agg (renL τ l)
  | .tup l => .tup (renL τ l)
  | .ifc t x => .ifc t (renT τ x)
  | .fn f c => .fn f (renL τ c)
  | .opt g x => .opt g (renT τ x)
  | .v x => .v x
  | .isl c n => .isl c n
  | .iat c => .iat c
  | .any => .any
def renL (τ : Nat → Option Nat) : List TV → List TV
  | [] => []
  | x :: l => renT τ x :: renL τ l
end
mutual
/-- No own block is named. -/
def Clo : TV → Prop
  | .at .. | .sl .. => False
  | .isl c _ | .iat c | .fn _ c | .agg c | .tup c => CloL c
  | .ifc _ x | .opt _ x => Clo x
  | .v _ | .any => True
def CloL : List TV → Prop
  | [] => True
  | x :: l => Clo x ∧ CloL l
end
mutual
/-- What is renamed as a whole: behind addresses that never change no own block is named. -/
def okT (m : Nat → Prop) : TV → Prop
  | .at b .. | .sl b .. => m b
  | .isl c _ | .iat c => CloL c
  | .fn _ c | .agg c | .tup c => okL m c
  | .ifc _ x | .opt _ x => okT m x
  | .v _ | .any => True
def okL (m : Nat → Prop) : List TV → Prop
  | [] => True
  | x :: l => okT m x ∧ okL m l
end

theorem CloL_iff : ∀ {l : List TV}, CloL l ↔ ∀ x ∈ l, Clo x
  | [] => by simp [CloL]
  | x :: l => by simp [CloL, CloL_iff]

mutual
theorem RV_clo {E E' : Env} (hI : ∀ r o v, E.I r o = some v → E'.I r o = some v) : ∀ (x : TV) (y : Value), Clo x → RV E x y → RV E' x y
  | .any, _, _, _ => by simp only [RV]
  | .v _, _, _, hx => by simpa only [RV] using hx
  | .at _ _ _, _, hc, _ => by simp only [Clo] at hc
  | .sl _ _ _ _, _, hc, _ => by simp only [Clo] at hc
  | .isl cells _, _, hc, hx => by
    simp only [Clo] at hc
    simp only [RV] at hx ⊢
    rcases hx with h0 | ⟨a, cap, h1, h2, h3⟩
    · exact .inl h0
    · refine .inr ⟨a, cap, h1, h2, ?_⟩
      rcases h3 with h3 | ⟨h3, h4⟩
      · exact .inl h3
      · exact .inr ⟨h3, RVl_clo hI cells _ _ _ hc (fun o v => hI _ o v) h4⟩
  | .iat cells, _, hc, hx => by
    simp only [Clo] at hc
    simp only [RV] at hx ⊢
    obtain ⟨a, h1, h3, h4⟩ := hx
    exact ⟨a, h1, h3, RVl_clo hI cells _ _ _ hc (fun o v => hI _ o v) h4⟩
  | .ifc _ x, _, hc, hx => by
    simp only [Clo] at hc
    simp only [RV] at hx ⊢
    obtain ⟨z, h1, h2⟩ := hx
    exact ⟨z, h1, RV_clo hI x z hc h2⟩
  | .fn _ caps, _, hc, hx => by
    simp only [Clo] at hc
    simp only [RV] at hx ⊢
    obtain ⟨zs, h1, h2, h3⟩ := hx
    exact ⟨zs, h1, h2, RVl_clo hI caps _ _ _ hc (fun _ _ x => x) h3⟩
  | .agg l, _, hc, hx => by
    simp only [Clo] at hc
    simp only [RV] at hx ⊢
    obtain ⟨zs, h1, h2, h3⟩ := hx
    exact ⟨zs, h1, h2, RVl_clo hI l _ _ _ hc (fun _ _ x => x) h3⟩
  | .tup l, _, hc, hx => by
    simp only [Clo] at hc
    simp only [RV] at hx ⊢
    obtain ⟨zs, h1, h2, h3⟩ := hx
    exact ⟨zs, h1, h2, RVl_clo hI l _ _ _ hc (fun _ _ x => x) h3⟩
  | .opt _ x, y, hc, hx => by
    simp only [Clo] at hc
    simp only [RV] at hx ⊢
    exact ⟨fun hg => RV_clo hI x y hc (hx.1 hg), hx.2⟩
theorem RVl_clo {E E' : Env} (hI : ∀ r o v, E.I r o = some v → E'.I r o = some v) : ∀ (l : List TV) (f f' : Nat → Option Value) (o : Nat), CloL l → (∀ o v, f o = some v → f' o = some v) → RVl E l f o → RVl E' l f' o
  | [], _, _, _, _, _, _ => by simp only [RVl]
  | x :: l, f, f', o, hc, hf, hx => by
    simp only [CloL] at hc
    simp only [RVl] at hx ⊢
    obtain ⟨⟨v, h1, h2⟩, h3⟩ := hx
    exact ⟨⟨v, hf _ _ h1, RV_clo hI x v hc.1 h2⟩, RVl_clo hI l f f' (o + 1) hc.2 hf h3⟩
end

mutual
/-- Towards other numbers. -/
theorem RV_ren {τ : Nat → Option Nat} {m : Nat → Prop} {E E' : Env} (hI : ∀ r o v, E.I r o = some v → E'.I r o = some v) (hc : E.c ≤ E'.c) (hρ : ∀ b j, τ b = some j → ∀ ver R, ver ≤ E.c → E'.ρ j = some (ver, R) → E.ρ b = some (ver, R)) :
    ∀ (x : TV) (y : Value), okT m x → RV E x y → RV E' (renT τ x) y
  | .any, _, _, _ => by simp only [renT, RV]
  | .v _, _, _, hx => by simpa only [renT, RV] using hx
  | .at b ver o, y, _, hx => by
    simp only [renT]
    cases hb : τ b with
    | none => simp only [RV]
    | some j =>
      simp only [RV] at hx ⊢
      obtain ⟨p, h1, h2, h3⟩ := hx
      exact ⟨p, h1, Nat.le_trans h2 hc, fun R hR => h3 R (hρ b j hb ver R h2 hR)⟩
  | .sl b ver o n, y, _, hx => by
    simp only [renT]
    cases hb : τ b with
    | none => simp only [RV]
    | some j =>
      simp only [RV] at hx ⊢
      obtain ⟨a, cap, h1, h2, h4, h5, h3⟩ := hx
      exact ⟨a, cap, h1, h2, h4, Nat.le_trans h5 hc, fun R hR => h3 R (hρ b j hb ver R h5 hR)⟩
  | .isl c n, y, hok, hx => by simp only [renT]; exact RV_clo hI _ y (by simpa only [okT, Clo] using hok) hx
  | .iat c, y, hok, hx => by simp only [renT]; exact RV_clo hI _ y (by simpa only [okT, Clo] using hok) hx
  | .ifc _ x, _, hok, hx => by
    simp only [okT] at hok
    simp only [renT, RV] at hx ⊢
    obtain ⟨z, h1, h2⟩ := hx
    exact ⟨z, h1, RV_ren hI hc hρ x z hok h2⟩
  | .fn _ l, _, hok, hx => by
    simp only [okT] at hok
    simp only [renT, RV] at hx ⊢
    obtain ⟨zs, h1, h2, h3⟩ := hx
    obtain ⟨k1, k2⟩ := RVl_ren hI hc hρ l _ _ hok h3
    exact ⟨zs, h1, by rw [k1]; exact h2, k2⟩
  | .agg l, _, hok, hx => by
    simp only [okT] at hok
    simp only [renT, RV] at hx ⊢
    obtain ⟨zs, h1, h2, h3⟩ := hx
    obtain ⟨k1, k2⟩ := RVl_ren hI hc hρ l _ _ hok h3
    exact ⟨zs, h1, by rw [k1]; exact h2, k2⟩
  | .tup l, _, hok, hx => by
    simp only [okT] at hok
    simp only [renT, RV] at hx ⊢
    obtain ⟨zs, h1, h2, h3⟩ := hx
    obtain ⟨k1, k2⟩ := RVl_ren hI hc hρ l _ _ hok h3
    exact ⟨zs, h1, by rw [k1]; exact h2, k2⟩
  | .opt _ x, y, hok, hx => by
    simp only [okT] at hok
    simp only [renT, RV] at hx ⊢
    exact ⟨fun hg => RV_ren hI hc hρ x y hok (hx.1 hg), hx.2⟩
theorem RVl_ren {τ : Nat → Option Nat} {m : Nat → Prop} {E E' : Env} (hI : ∀ r o v, E.I r o = some v → E'.I r o = some v) (hc : E.c ≤ E'.c) (hρ : ∀ b j, τ b = some j → ∀ ver R, ver ≤ E.c → E'.ρ j = some (ver, R) → E.ρ b = some (ver, R)) :
    ∀ (l : List TV) (f : Nat → Option Value) (o : Nat), okL m l → RVl E l f o → (renL τ l).length = l.length ∧ RVl E' (renL τ l) f o
  | [], _, _, _, _ => by simp only [renL, RVl, and_self]
  | x :: l, f, o, hok, hx => by
    simp only [okL] at hok
    simp only [renL, RVl] at hx ⊢
    obtain ⟨⟨v, h1, h2⟩, h3⟩ := hx
    obtain ⟨k1, k2⟩ := RVl_ren hI hc hρ l f (o + 1) hok.2 h3
    exact ⟨by simp [k1], ⟨v, h1, RV_ren hI hc hρ x v hok.1 h2⟩, k2⟩
end

mutual
/-- Back from other numbers. -/
theorem RV_unren {τ : Nat → Option Nat} {E E' : Env} (hI : ∀ r o v, E.I r o = some v → E'.I r o = some v) (hc : E.c ≤ E'.c) (hρ : ∀ b j, τ b = some j → ∀ ver R, E'.ρ b = some (ver, R) → E.ρ j = some (ver, R)) :
    ∀ (x : TV) (y : Value), okT (fun b => (τ b).isSome = true) x → RV E (renT τ x) y → RV E' x y
  | .any, _, _, _ => by simp only [RV]
  | .v _, _, _, hx => by simpa only [renT, RV] using hx
  | .at b ver o, y, hok, hx => by
    simp only [okT] at hok
    obtain ⟨j, hj⟩ := Option.isSome_iff_exists.1 hok
    simp only [renT, hj, RV] at hx ⊢
    obtain ⟨p, h1, h2, h3⟩ := hx
    exact ⟨p, h1, Nat.le_trans h2 hc, fun R hR => h3 R (hρ b j hj ver R hR)⟩
  | .sl b ver o n, y, hok, hx => by
    simp only [okT] at hok
    obtain ⟨j, hj⟩ := Option.isSome_iff_exists.1 hok
    simp only [renT, hj, RV] at hx ⊢
    obtain ⟨a, cap, h1, h2, h4, h5, h3⟩ := hx
    exact ⟨a, cap, h1, h2, h4, Nat.le_trans h5 hc, fun R hR => h3 R (hρ b j hj ver R hR)⟩
  | .isl c n, y, hok, hx => by simp only [renT] at hx; exact RV_clo hI _ y (by simpa only [okT, Clo] using hok) hx
  | .iat c, y, hok, hx => by simp only [renT] at hx; exact RV_clo hI _ y (by simpa only [okT, Clo] using hok) hx
  | .ifc _ x, _, hok, hx => by
    simp only [okT] at hok
    simp only [renT, RV] at hx ⊢
    obtain ⟨z, h1, h2⟩ := hx
    exact ⟨z, h1, RV_unren hI hc hρ x z hok h2⟩
  | .fn _ l, _, hok, hx => by
    simp only [okT] at hok
    simp only [renT, RV] at hx ⊢
    obtain ⟨zs, h1, h2, h3⟩ := hx
    obtain ⟨k1, k2⟩ := RVl_unren hI hc hρ l _ _ hok h3
    exact ⟨zs, h1, by rw [← k1]; exact h2, k2⟩
  | .agg l, _, hok, hx => by
    simp only [okT] at hok
    simp only [renT, RV] at hx ⊢
    obtain ⟨zs, h1, h2, h3⟩ := hx
    obtain ⟨k1, k2⟩ := RVl_unren hI hc hρ l _ _ hok h3
    exact ⟨zs, h1, by rw [← k1]; exact h2, k2⟩
  | .tup l, _, hok, hx => by
    simp only [okT] at hok
    simp only [renT, RV] at hx ⊢
    obtain ⟨zs, h1, h2, h3⟩ := hx
    obtain ⟨k1, k2⟩ := RVl_unren hI hc hρ l _ _ hok h3
    exact ⟨zs, h1, by rw [← k1]; exact h2, k2⟩
  | .opt _ x, y, hok, hx => by
    simp only [okT] at hok
    simp only [renT, RV] at hx ⊢
    exact ⟨fun hg => RV_unren hI hc hρ x y hok (hx.1 hg), hx.2⟩
theorem RVl_unren {τ : Nat → Option Nat} {E E' : Env} (hI : ∀ r o v, E.I r o = some v → E'.I r o = some v) (hc : E.c ≤ E'.c) (hρ : ∀ b j, τ b = some j → ∀ ver R, E'.ρ b = some (ver, R) → E.ρ j = some (ver, R)) :
    ∀ (l : List TV) (f : Nat → Option Value) (o : Nat), okL (fun b => (τ b).isSome = true) l → RVl E (renL τ l) f o → (renL τ l).length = l.length ∧ RVl E' l f o
  | [], _, _, _, _ => by simp only [renL, RVl, and_self]
  | x :: l, f, o, hok, hx => by
    simp only [okL] at hok
    simp only [renL, RVl] at hx ⊢
    obtain ⟨⟨v, h1, h2⟩, h3⟩ := hx
    obtain ⟨k1, k2⟩ := RVl_unren hI hc hρ l f (o + 1) hok.2 h3
    exact ⟨by simp [k1], ⟨v, h1, RV_unren hI hc hρ x v hok.1 h2⟩, k2⟩
end
end Go.Proofs.YtekmhdiajjfgfaaDoor.TL
