/- Own words, in one text: Tn To Tq Tr Ts Tt Tu. No program is named here. -/
import Derived.Test.YtnkdkajllmopaaaGreatTB
import Derived.Orders
/- Own words, part 12: a contract used by a caller; states that say less; blocks that never change any more. No program is named here. -/
/- Own words, part 13: states and values that say less; blocks that never change any more. No program is named here. -/
/- Own words, part 15: regions whose order is drawn: by a family of states, one for each set of operations that are done. No program is named here. -/
/- Own words, part 16: regions whose order is drawn, of operations that change nothing (but for the last). No program is named here. -/
/- Own words, part 17: regions whose order is drawn, with a chain of operations that change memory. No program is named here. -/
/- Own words, part 19: regions whose order is drawn: operations that change nothing, one effect, then one operation behind the other. No program is named here. -/
/- Own words, part 20: a block bears another number. No program is named here. -/
namespace Go.Proofs.YtnkdkajllmopaaaGreat.TL
open Go
set_option linter.unusedVariables false
set_option linter.unusedSimpArgs false

def renB (τ : Nat → Option Nat) (B : Blk) : Blk := if B.k = 0 then ⟨0, renL τ B.cells⟩ else B
def okB (m : Nat → Prop) (B : Blk) : Prop := if B.k = 0 then okL m B.cells else CloL B.cells

def mapId : List (Nat × Nat) → Nat → Option Nat
  | [], _ => none
  | (i, j) :: l, n => if n = i then some j else mapId l n
/-- The caller's heap behind a call. -/
def applyH (τ : Nat → Option Nat) (h1 : Heap) : List (Nat × Nat) → Heap → Heap
  | [], h => h
  | (i, j) :: l, h => match getH h1 i with
    | some (ver, B) => setH (applyH τ h1 l h) j (ver, renB τ B)
    | none => delH (applyH τ h1 l h) j

/-- The callee's number of a caller's slot. -/
def backId : List (Nat × Nat) → Nat → Option Nat
  | [], _ => none
  | (i, j) :: l, n => if n = j then some i else backId l n

theorem getH_applyH (τ : Nat → Option Nat) (h1 h : Heap) : ∀ (l : List (Nat × Nat)) (n : Nat), getH (applyH τ h1 l h) n = match backId l n with | some i => (getH h1 i).map fun p => (p.1, renB τ p.2) | none => getH h n
  | [], n => rfl
  | (i, j) :: l, n => by
    simp only [applyH, backId]
    cases hi : getH h1 i with
    | none =>
      simp only [getH_delH]
      by_cases hn : n = j
      · simp [hn, hi]
      · simp only [if_neg hn]; exact getH_applyH τ h1 h l n
    | some p =>
      obtain ⟨ver, B⟩ := p
      simp only [getH_setH]
      by_cases hn : n = j
      · simp [hn, hi]
      · simp only [if_neg hn]; exact getH_applyH τ h1 h l n

/-- Each number once, on either side. -/
def okTau : List (Nat × Nat) → Bool
  | [] => true
  | (i, j) :: l => (mapId l i).isNone && (backId l j).isNone && okTau l

theorem back_of_map : ∀ {l : List (Nat × Nat)} {i j : Nat}, okTau l = true → mapId l i = some j → backId l j = some i
  | (a, b) :: l, i, j, hok, h => by
    simp only [okTau, Bool.and_eq_true] at hok
    simp only [mapId] at h
    simp only [backId]
    by_cases hi : i = a
    · rw [if_pos hi] at h; cases h; rw [if_pos rfl, hi]
    · rw [if_neg hi] at h
      have := back_of_map hok.2 h
      rw [if_neg (fun hj => by rw [hj] at this; simp [this] at hok)]
      exact this
theorem map_of_back : ∀ {l : List (Nat × Nat)} {i j : Nat}, okTau l = true → backId l j = some i → mapId l i = some j
  | (a, b) :: l, i, j, hok, h => by
    simp only [okTau, Bool.and_eq_true] at hok
    simp only [backId] at h
    simp only [mapId]
    by_cases hj : j = b
    · rw [if_pos hj] at h; cases h; rw [if_pos rfl, hj]
    · rw [if_neg hj] at h
      have := map_of_back hok.2 h
      rw [if_neg (fun hi => by rw [hi] at this; simp [this] at hok)]
      exact this

theorem getH_mem : ∀ {h : Heap} {n : Nat} {x : Nat × Blk}, getH h n = some x → (n, x) ∈ h
  | (k, y) :: l, n, x, h => by
    simp only [getH] at h
    by_cases hn : n = k
    · rw [if_pos hn] at h; cases h; subst hn; exact List.mem_cons_self
    · rw [if_neg hn] at h; exact List.mem_cons_of_mem _ (getH_mem h)

theorem renB_k (τ : Nat → Option Nat) (B : Blk) : (renB τ B).k = B.k := by unfold renB; split <;> simp_all

theorem RVl_ext {E : Env} {l : List TV} {f f' : Nat → Option Value} {o : Nat} (h : RVl E l f o) (hf : ∀ j v, f j = some v → f' j = some v) : RVl E l f' o := RVl.mono (Env.Le.refl E) _ _ _ _ hf h

/-- A CONTRACT USED: τ: the callee's numbers of the blocks, and the caller's. -/
theorem callT_use {P : Program} {f : Nat} {args0 args : List TV} {s : TS} {h0 : Heap} {Q0 K : TV → Heap → Prop} (τ : List (Nat × Nat)) (hc : callT P f args0 ⟨[], h0⟩ Q0) (hτ : okTau τ = true)
    (hargs : args = renL (mapId τ) args0) (hok : okL (fun b => (mapId τ b).isSome = true) args0)
    (hh : ∀ p ∈ h0, okB (fun b => (mapId τ b).isSome = true) p.2.2 ∧ ∃ j, mapId τ p.1 = some j ∧ getH s.h j = some (p.2.1, renB (mapId τ) p.2.2))
    (hK : ∀ r h1, Q0 r h1 → okT (fun _ => True) r ∧ (∀ p ∈ h1, (mapId τ p.1).isSome = true ∧ okB (fun _ => True) p.2.2) ∧ K (renT (mapId τ) r) (applyH (mapId τ) h1 τ s.h)) : callT P f args s K := by
  refine ⟨hc.1, fun e E w vs H hl hv => ?_⟩
  let E0 : Env := { I := E.I, ρ := fun i => if (getH h0 i).isSome then (mapId τ i).bind E.ρ else none, c := E.c }
  let e0 : Ent := { w0 := w, E0 := E0, O := fun r => ∃ i ver q, E0.ρ i = some (ver, some q) ∧ q.r = r, glo := H.glo }
  have hE0 : ∀ i y, E0.ρ i = some y → ∃ j, mapId τ i = some j ∧ E.ρ j = some y ∧ (getH h0 i).isSome = true := fun i y hy => by
    simp only [E0] at hy
    split at hy
    · rename_i hs
      obtain ⟨j, hj, hy⟩ := Option.bind_eq_some_iff.1 hy
      exact ⟨j, hj, hy, hs⟩
    · cases hy
  have unr : ∀ b j, mapId τ b = some j → ∀ ver R, E0.ρ b = some (ver, R) → E.ρ j = some (ver, R) := fun b j hb ver R hR => by
    obtain ⟨j', hj', h, _⟩ := hE0 b _ hR
    rw [hb] at hj'; cases hj'; exact h
  have H0 : SatH e0 E0 h0 w := by
    refine ⟨H.imm, fun i ver B hi => ?_, fun i hi => ?_, fun i ver R hi => ?_, fun i ver q hi => ?_, fun i i' ver ver' q q' hi hi' hr => ?_, ⟨Nat.le_refl _, fun _ _ _ => rfl, rfl, rfl, rfl, Env.Le.refl _, fun r o v hI => .inl ⟨v, hI⟩⟩⟩
    · obtain ⟨hb, j, hj, hjs⟩ := hh (i, ver, B) (getH_mem hi)
      obtain ⟨R, hR, hB⟩ := H.live j ver _ hjs
      refine ⟨R, by simp [E0, hi, hj, hR], ?_⟩
      refine hB.conv (by rw [renB_k]) ?_ ?_
      · by_cases hk : B.k = 0
        · simp only [renB, hk, if_true, renL_length]
        · simp only [renB, if_neg hk]
      · intro f o hf
        by_cases hk : B.k = 0
        · simp only [okB, hk, if_true] at hb
          simp only [renB, hk, if_true] at hf
          exact (RVl_unren (E := E) (E' := E0) (fun _ _ _ x => x) (Nat.le_refl _) unr B.cells _ _ hb hf).2
        · simp only [okB, if_neg hk] at hb
          simp only [renB, if_neg hk] at hf
          exact RVl_clo (E := E) (E' := E0) (fun _ _ _ x => x) B.cells _ _ _ hb (fun _ _ x => x) hf
    · simp [E0, hi]
    · obtain ⟨j, _, h, _⟩ := hE0 i _ hi; exact H.vers j ver R h
    · obtain ⟨j, _, h, _⟩ := hE0 i _ hi
      obtain ⟨h1, h2, _⟩ := H.ownd j ver q h
      exact ⟨h1, h2, .inl ⟨i, ver, q, hi, rfl⟩⟩
    · obtain ⟨j, hj, h, _⟩ := hE0 i _ hi
      obtain ⟨j', hj', h', _⟩ := hE0 i' _ hi'
      have := H.apart j j' ver ver' q q' h h' hr
      subst this
      have e1 := back_of_map hτ hj
      rw [back_of_map hτ hj'] at e1
      cases e1; rfl
  obtain ⟨hl0, hv0⟩ := RVl_unren (τ := mapId τ) (E := E) (E' := E0) (fun _ _ _ x => x) (Nat.le_refl _) unr args0 _ _ hok (hargs ▸ hv)
  refine (hc.2 e0 E0 w vs H0 (by rw [hl, hargs, hl0]) hv0).mono fun en w1 ⟨v, r, h1, E1, hen, hQ, l1, H1, hr⟩ => ?_
  obtain ⟨hokr, hokh, hKr⟩ := hK r h1 hQ
  let E2 : Env := { I := E1.I, ρ := fun j => match backId τ j with | some i => if (getH h1 i).isSome then E1.ρ i else none | none => E.ρ j, c := E1.c }
  have ren : ∀ b j, mapId τ b = some j → ∀ ver R, ver ≤ E1.c → E2.ρ j = some (ver, R) → E1.ρ b = some (ver, R) := fun b j hb ver R _ hR => by
    simp only [E2, back_of_map hτ hb] at hR
    split at hR
    · exact hR
    · cases hR
  have l2 : E.Le E2 := by
    refine ⟨l1.c, l1.I, fun j ver R hR hver => ?_⟩
    simp only [E2] at hR
    split at hR
    · rename_i i hi
      split at hR
      · have h := l1.ρ i ver R hR hver
        obtain ⟨j', hj', h2, _⟩ := hE0 i _ h
        rw [map_of_back hτ hi] at hj'
        cases hj'; exact h2
      · cases hR
    · exact hR
  have hcell : ∀ x ver q, E.ρ x = some (ver, some q) → backId τ x = none → w1.heap[q.r]? = w.heap[q.r]? := fun x ver q hx hb => by
    have hn : ¬ e0.O q.r := by
      rintro ⟨i, ver', q', hi, hq⟩
      obtain ⟨j, hj, h, _⟩ := hE0 i _ hi
      have := H.apart j x ver' ver q' q h hx hq
      subst this
      rw [back_of_map hτ hj] at hb
      cases hb
    exact H1.gr.frame q.r (H.ownd x ver q hx).1 hn
  refine ⟨v, _, _, E2, hen, hKr, l2, ?_, RV_ren (E := E1) (E' := E2) (fun _ _ _ x => x) (Nat.le_refl _) ren r v hokr hr⟩
  refine ⟨H1.imm, fun j ver B hj => ?_, fun j hj => ?_, fun j ver R hj => ?_, fun j ver q hj => ?_, fun j j' ver ver' q q' hj hj' hr => ?_, ?_⟩
  · rw [getH_applyH] at hj
    cases hb : backId τ j with
    | some i =>
      simp only [hb] at hj
      obtain ⟨⟨ver', B'⟩, hg, hg2⟩ := Option.map_eq_some_iff.1 hj
      cases hg2
      obtain ⟨_, hokB⟩ := hokh _ (getH_mem hg)
      obtain ⟨R, hR, hB⟩ := H1.live i ver' B' hg
      refine ⟨R, by simp [E2, hb, hg, hR], ?_⟩
      refine hB.conv (by rw [renB_k]) ?_ ?_
      · by_cases hk : B'.k = 0
        · simp only [renB, hk, if_true, renL_length]
        · simp only [renB, if_neg hk]
      · intro f o hf
        by_cases hk : B'.k = 0
        · simp only [okB, hk, if_true] at hokB
          simp only [renB, hk, if_true]
          exact (RVl_ren (E := E1) (E' := E2) (fun _ _ _ x => x) (Nat.le_refl _) ren B'.cells _ _ hokB hf).2
        · simp only [okB, if_neg hk] at hokB
          simp only [renB, if_neg hk]
          exact RVl_clo (E := E1) (E' := E2) (fun _ _ _ x => x) B'.cells _ _ _ hokB (fun _ _ x => x) hf
    | none =>
      simp only [hb] at hj
      obtain ⟨R, hR, hB⟩ := H.live j ver B hj
      exact ⟨R, by simp [E2, hb, hR], hB.mono l2 fun q hq => hcell j ver q (hq ▸ hR) hb⟩
  · rw [getH_applyH] at hj
    simp only [E2]
    cases hb : backId τ j with
    | some i =>
      simp only [hb, Option.map_eq_none_iff] at hj
      simp [hj]
    | none =>
      simp only [hb] at hj
      exact H.dead j hj
  · simp only [E2] at hj
    split at hj
    · split at hj
      · exact H1.vers _ _ _ hj
      · cases hj
    · exact Nat.le_trans (H.vers _ _ _ hj) l1.c
  · simp only [E2] at hj
    split at hj
    · rename_i i hi
      split at hj
      · obtain ⟨k1, k2, k3⟩ := H1.ownd _ _ _ hj
        refine ⟨k1, k2, ?_⟩
        rcases k3 with ⟨i', ver', q', hi', hq⟩ | k3
        · obtain ⟨j', _, h, _⟩ := hE0 i' _ hi'
          rw [← hq]
          exact (H.ownd j' ver' q' h).2.2
        · exact .inr (Nat.le_trans H.gr.size k3)
      · cases hj
    · rename_i hb
      obtain ⟨k1, k2, k3⟩ := H.ownd _ _ _ hj
      refine ⟨Nat.lt_of_lt_of_le k1 H1.gr.size, fun o => ?_, k3⟩
      cases hI : E1.I q.r o with
      | none => rfl
      | some v' =>
        exfalso
        rcases H1.gr.newI q.r o v' hI with ⟨v'', h2⟩ | ⟨i', ver', q', hi', hq⟩ | h2
        · have := k2 o; simp only [e0, E0] at h2; rw [this] at h2; cases h2
        · obtain ⟨j', hj', h, _⟩ := hE0 i' _ hi'
          have := H.apart j' j ver' ver q' q h hj hq
          subst this
          rw [back_of_map hτ hj'] at hb
          cases hb
        · simp only [e0] at h2; omega
  · have key : ∀ j ver q j' ver' q', E2.ρ j = some (ver, some q) → E2.ρ j' = some (ver', some q') → q.r = q'.r → backId τ j = none → (backId τ j').isSome = true → False := fun j ver q j' ver' q' hj hj' hr hb hb' => by
      obtain ⟨i, hi⟩ := Option.isSome_iff_exists.1 hb'
      simp only [E2, hb] at hj
      simp only [E2, hi] at hj'
      split at hj'
      · obtain ⟨k1, k2, k3⟩ := H1.ownd _ _ _ hj'
        obtain ⟨m1, _, _⟩ := H.ownd _ _ _ hj
        rcases k3 with ⟨i', v', q'', hi', hq⟩ | k3
        · obtain ⟨j'', hj'', h, _⟩ := hE0 i' _ hi'
          have := H.apart j'' j v' ver q'' q h hj (by rw [hq, hr])
          subst this
          rw [back_of_map hτ hj''] at hb
          cases hb
        · simp only [e0] at k3; omega
      · cases hj'
    cases hb : backId τ j with
    | none =>
      cases hb' : backId τ j' with
      | none =>
        simp only [E2, hb] at hj
        simp only [E2, hb'] at hj'
        exact H.apart _ _ _ _ _ _ hj hj' hr
      | some i' => exact (key _ _ _ _ _ _ hj hj' hr hb (by simp [hb'])).elim
    | some i =>
      cases hb' : backId τ j' with
      | none => exact (key _ _ _ _ _ _ hj' hj hr.symm hb' (by simp [hb])).elim
      | some i' =>
        simp only [E2, hb] at hj
        simp only [E2, hb'] at hj'
        split at hj
        · split at hj'
          · have := H1.apart _ _ _ _ _ _ hj hj' hr
            subst this
            have e1 := map_of_back hτ hb
            rw [map_of_back hτ hb'] at e1
            cases e1; rfl
          · cases hj'
        · cases hj
  · refine ⟨Nat.le_trans H.gr.size H1.gr.size, fun r hr hO => ?_, H1.gr.os.trans H.gr.os, H1.gr.tape.trans H.gr.tape, H1.gr.output.trans H.gr.output, H.gr.le.trans l2, fun r o v' hI => ?_⟩
    · rw [H1.gr.frame r (Nat.lt_of_lt_of_le hr H.gr.size) (fun ⟨i', ver', q', hi', hq⟩ => ?_)]
      · exact H.gr.frame r hr hO
      · obtain ⟨j', _, h, _⟩ := hE0 i' _ hi'
        rcases (H.ownd j' ver' q' h).2.2 with k | k
        · exact hO (hq ▸ k)
        · omega
    · rcases H1.gr.newI r o v' hI with ⟨v'', h2⟩ | ⟨i', ver', q', hi', hq⟩ | h2
      · exact H.gr.newI r o v'' h2
      · obtain ⟨j', _, h, _⟩ := hE0 i' _ hi'
        rcases (H.ownd j' ver' q' h).2.2 with k | k
        · exact .inr (.inl (hq ▸ k))
        · exact .inr (.inr (hq ▸ k))
      · exact .inr (.inr (Nat.le_trans H.gr.size h2))

end Go.Proofs.YtnkdkajllmopaaaGreat.TL

namespace Go.Proofs.YtnkdkajllmopaaaGreat.TL
open Go
set_option linter.unusedVariables false
set_option linter.unusedSimpArgs false

section
variable {P : Program} {e : Ent} {E : Env} {s : TS} {w : World}

theorem getT_sub {t t' : List (Nat × TV)} (h : ∀ p ∈ t', getT t p.1 = p.2) (n : Nat) : getT t' n = getT t n ∨ getT t' n = .any := by
  induction t' with
  | nil => exact .inr rfl
  | cons p l ih =>
    obtain ⟨k, x⟩ := p
    simp only [getT]
    by_cases hn : n = k
    · subst hn; rw [if_pos rfl]; exact .inl (h (n, x) List.mem_cons_self).symm
    · rw [if_neg hn]; exact ih fun q hq => h q (List.mem_cons_of_mem _ hq)

/-- The same environment, of some blocks alone. -/
def Env.few (E : Env) (h : Heap) : Env := { I := E.I, ρ := fun x => if (getH h x).isSome then E.ρ x else none, c := E.c }
theorem Env.le_few (E : Env) (h : Heap) : E.Le (E.few h) := ⟨Nat.le_refl _, fun _ _ _ x => x, fun x ver R hx _ => by
  simp only [Env.few] at hx
  split at hx
  · exact hx
  · cases hx⟩
theorem SatH.few {h h' : Heap} (H : SatH e E h w) (hh : ∀ p ∈ h', getH h p.1 = some p.2) : SatH e (E.few h') h' w := by
  have hρ : ∀ x y, (E.few h').ρ x = some y → E.ρ x = some y := fun x y hx => by
    simp only [Env.few] at hx
    split at hx
    · exact hx
    · cases hx
  have hle := E.le_few h'
  refine ⟨H.imm, fun x ver B hx => ?_, fun x hx => by simp [Env.few, hx], fun x ver R hx => H.vers x ver R (hρ _ _ hx), fun x ver q hx => H.ownd x ver q (hρ _ _ hx), fun x y ver ver' q q' hx hy => H.apart x y ver ver' q q' (hρ _ _ hx) (hρ _ _ hy), ?_⟩
  · obtain ⟨R, h1, h2⟩ := H.live x ver B (hh _ (getH_mem hx))
    exact ⟨R, by simp [Env.few, hx, h1], h2.mono hle fun _ _ => rfl⟩
  · exact ⟨H.gr.size, H.gr.frame, H.gr.os, H.gr.tape, H.gr.output, H.gr.le.trans hle, H.gr.newI⟩

/-- SOME TEMPORARIES, SOME BLOCKS ARE FORGOTTEN. -/
theorem SLx.sub {s : TS} {S : TS → Prop} (s' : TS) (ht : ∀ p ∈ s'.t, getT s.t p.1 = p.2) (hh : ∀ p ∈ s'.h, getH s.h p.1 = some p.2) (h : SLx s' S) : SLx s S := fun e E w tmps H hT =>
  SLx.step h (E.le_few s'.h) (H.few hh) fun n => by
    rcases getT_sub ht n with h | h
    · rw [h]; exact (hT n).mono (E.le_few s'.h) _ _
    · rw [h]; simp only [RV]
/-- .. and that is the end. -/
theorem SLx.fin {s : TS} {S : TS → Prop} (s' : TS) (hS : S s') (ht : ∀ p ∈ s'.t, getT s.t p.1 = p.2) (hh : ∀ p ∈ s'.h, getH s.h p.1 = some p.2) : SLx s S := SLx.sub s' ht hh (SLx.done hS)

/-- The loop's head again. -/
theorem SLx.again {X : Type} {J : X → Prop} {S : X → TS} {μ : X → Nat} {n : Nat} {s : TS} (y : X) (hJ : J y) (hn : μ y < n) (ht : ∀ p ∈ (S y).t, getT s.t p.1 = p.2) (hh : ∀ p ∈ (S y).h, getH s.h p.1 = some p.2) : SLx s (again J S μ n) :=
  SLx.fin (S y) ⟨y, hJ, hn, rfl⟩ ht hh
/-- A loop begun. -/
theorem loopT_of {W : (TX → TS → Prop) → TS → Prop} {Q : TX → TS → Prop} {s : TS} (X : Type) (J : X → Prop) (S : X → TS) (μ : X → Nat) (x0 : X) (h0 : J x0) (ht : ∀ p ∈ (S x0).t, getT s.t p.1 = p.2) (hh : ∀ p ∈ (S x0).h, getH s.h p.1 = some p.2)
    (round : ∀ x, J x → W (thenT (fun s' => SLx s' (TL.again J S μ (μ x))) Q) (S x)) : loopT W Q s :=
  ⟨X, J, S, μ, SLx.fin (S x0) ⟨x0, h0, rfl⟩ ht hh, round⟩

/-- The nil slice as a slice of a block without memory. -/
theorem SLx.nil {s : TS} {S : TS → Prop} (t b k : Nat) (hk : k ≠ 0) (ht : getT s.t t = .v (.slice none 0 0)) (h : ∀ v, SLx ⟨(t, .sl b v 0 0) :: s.t, setH s.h b (v, ⟨k, []⟩)⟩ S) : SLx s S := fun e E w tmps H hT => by
  refine SLx.step (h (E.c + 1)) (H.le_slot b none) (H.nil b k hk) (fun n => ?_)
  simp only [getT]
  by_cases hn : n = t
  · subst hn
    rw [if_pos rfl]
    have := hT n
    rw [ht] at this
    simp only [RV] at this
    rw [this]
    exact nil_new H
  · rw [if_neg hn]; exact (hT n).mono (H.le_slot b none) _ _

/-- A value, a heap that say no less than one of S. -/
def VLx (r : TV) (h : Heap) (S : TV → Heap → Prop) : Prop := ∀ (e : Ent) (E : Env) (w : World) (v : Value), SatH e E h w → RV E r v → ∃ r' h' E', S r' h' ∧ E.Le E' ∧ SatH e E' h' w ∧ RV E' r' v
theorem VLx.done {r : TV} {h : Heap} {S : TV → Heap → Prop} (hS : S r h) : VLx r h S := fun _ E _ _ h1 h2 => ⟨r, h, E, hS, Env.Le.refl E, h1, h2⟩
theorem VLx.sub {r : TV} {h : Heap} {S : TV → Heap → Prop} (h' : Heap) (hh : ∀ p ∈ h', getH h p.1 = some p.2) (k : VLx r h' S) : VLx r h S := fun e E w v H hr =>
  let ⟨r', h'', E', a, b, c, d⟩ := k e _ w v (H.few hh) (hr.mono (E.le_few h') _ _)
  ⟨r', h'', E', a, (E.le_few h').trans b, c, d⟩

theorem callT.mono {f : Nat} {args : List TV} {s : TS} {K K' : TV → Heap → Prop} (h : callT P f args s K) (hk : ∀ r h, K r h → VLx r h K') : callT P f args s K' :=
  ⟨h.1, fun e E w vs H hl hv => (h.2 e E w vs H hl hv).mono fun en w1 ⟨v, r, h1, E1, hen, hQ, l1, H1, hr⟩ => by
    obtain ⟨r', h', E2, hk', l2, H2, hr2⟩ := hk r h1 hQ e E1 w1 v H1 hr
    exact ⟨v, r', h', E2, hen, hk', l1.trans l2, H2, hr2⟩⟩

/- A block that never changes any more. -/
def Env.frz (E : Env) (w : World) (b : Nat) : Env :=
  { I := fun r o => match E.ρ b with | some (_, some q) => if r = q.r then w.cell? ⟨r, o, none⟩ else E.I r o | _ => E.I r o
    ρ := fun x => if x = b then none else E.ρ x
    c := E.c }
theorem SatH.le_frz {h : Heap} (H : SatH e E h w) (b : Nat) : E.Le (E.frz w b) := by
  refine ⟨Nat.le_refl _, fun r o v hI => ?_, fun x ver R hx _ => ?_⟩
  · simp only [Env.frz]
    split
    · rename_i ver q hq
      split
      · exact H.imm r o v hI
      · exact hI
    · exact hI
  · simp only [Env.frz] at hx
    split at hx
    · cases hx
    · exact hx
theorem SatH.frz {h : Heap} (H : SatH e E h w) (b : Nat) : SatH e (E.frz w b) (delH h b) w := by
  have hle := H.le_frz b
  have hρ : ∀ x y, (E.frz w b).ρ x = some y → x ≠ b ∧ E.ρ x = some y := fun x y hx => by
    simp only [Env.frz] at hx
    split at hx
    · cases hx
    · exact ⟨‹_›, hx⟩
  refine ⟨fun r o v hI => ?_, fun x ver B hx => ?_, fun x hx => ?_, fun x ver R hx => H.vers x ver R (hρ _ _ hx).2, fun x ver q hx => ?_, fun x y ver ver' q q' hx hy => H.apart x y ver ver' q q' (hρ _ _ hx).2 (hρ _ _ hy).2, ?_⟩
  · simp only [Env.frz] at hI
    split at hI
    · split at hI
      · exact hI
      · exact H.imm r o v hI
    · exact H.imm r o v hI
  · rw [getH_delH] at hx
    split at hx
    · cases hx
    · obtain ⟨R, h1, h2⟩ := H.live x ver B hx
      exact ⟨R, by simp [Env.frz, *], h2.mono hle fun _ _ => rfl⟩
  · rw [getH_delH] at hx
    simp only [Env.frz]
    split
    · rfl
    · rw [if_neg ‹_›] at hx; exact H.dead x hx
  · obtain ⟨hxb, hx'⟩ := hρ _ _ hx
    obtain ⟨k1, k2, k3⟩ := H.ownd x ver q hx'
    refine ⟨k1, fun o => ?_, k3⟩
    simp only [Env.frz]
    split
    · rename_i ver' q' hq'
      rw [if_neg (fun hr => hxb (H.apart _ _ _ _ _ _ hx' hq' hr))]
      exact k2 o
    · exact k2 o
  · refine ⟨H.gr.size, H.gr.frame, H.gr.os, H.gr.tape, H.gr.output, H.gr.le.trans hle, fun r o v hI => ?_⟩
    simp only [Env.frz] at hI
    split at hI
    · rename_i ver q hq
      split at hI
      · rename_i hr
        rcases (H.ownd _ _ _ hq).2.2 with k | k
        · exact .inr (.inl (hr ▸ k))
        · exact .inr (.inr (hr ▸ k))
      · exact H.gr.newI r o v hI
    · exact H.gr.newI r o v hI

mutual
def frzT (b ver : Nat) (B : Blk) : TV → TV
  | .sl b' v o n => if b' = b ∧ v = ver then .isl (if B.k = 0 then (if n = 0 then [] else B.cells.drop o) else (B.cells.drop o).take (n * B.k)) n else .sl b' v o n
  | .agg l => .agg (frzL b ver B l)
  | .tup l => .tup (frzL b ver B l)
  | .ifc t x => .ifc t (frzT b ver B x)
  | .opt g x => .opt g (frzT b ver B x)
  | .at b' v o => if b' = b ∧ v = ver then .iat (B.cells.drop o) else .at b' v o
  | .mp b' v => .mp b' v
  | .fn f c => .fn f c
  | .v x => .v x
  | .isl c n => .isl c n
  | .iat c => .iat c
  | .any => .any
def frzL (b ver : Nat) (B : Blk) : List TV → List TV
  | [] => []
  | x :: l => frzT b ver B x :: frzL b ver B l
end

mutual
theorem RV_frz {h : Heap} (H : SatH e E h w) {b ver : Nat} {B : Blk} (hb : getH h b = some (ver, B)) : ∀ (x : TV) (y : Value), RV E x y → RV (E.frz w b) (frzT b ver B x) y
  | .sl b' v o n, y, hx => by
    simp only [frzT]
    split
    · rename_i hc
      obtain ⟨rfl, rfl⟩ := hc
      obtain ⟨R, hR, hB⟩ := H.live b' v B hb
      simp only [RV] at hx ⊢
      obtain ⟨a, cap, rfl, h1, h2, h3, h4⟩ := hx
      rcases h4 R hR with ⟨rfl, rfl, rfl, rfl⟩ | ⟨q, a', rfl, rfl, h5, h6⟩
      · exact .inl ⟨rfl, by split <;> simp, rfl⟩
      · refine .inr ⟨a', cap, rfl, h1, ?_⟩
        rcases h5 with rfl | rfl
        · obtain rfl : n = 0 := by omega
          exact .inl (by split <;> simp)
        · replace hB := hB.sl h6
          rcases hB with ⟨k0, _, _⟩ | ⟨q', k1, _, _, _, k5⟩
          · cases k0
          cases k1
          by_cases hB0 : B.k = 0
          · rw [if_pos hB0]
            by_cases hn0 : n = 0
            · rw [if_pos hn0]; exact .inl rfl
            · rw [if_neg hn0]
              refine .inr ⟨rfl, RVl.mono (H.le_frz b') _ _ _ _ (fun j v' hv => ?_) (k5.drop o)⟩
              simp only [Env.frz, hR, if_true]
              exact hv
          · rw [if_neg hB0]
            refine .inr ⟨rfl, RVl.mono (H.le_frz b') _ _ _ _ (fun j v' hv => ?_) ((k5.drop o).take (n * B.k))⟩
            simp only [Env.frz, hR, if_true]
            exact hv
    · exact RV.mono (H.le_frz b) _ _ hx
  | .agg l, _, hx => by
    simp only [frzT, RV] at hx ⊢
    obtain ⟨zs, h1, h2, h3⟩ := hx
    obtain ⟨k1, k2⟩ := RVl_frz H hb l _ _ h3
    exact ⟨zs, h1, by rw [k1]; exact h2, k2⟩
  | .tup l, _, hx => by
    simp only [frzT, RV] at hx ⊢
    obtain ⟨zs, h1, h2, h3⟩ := hx
    obtain ⟨k1, k2⟩ := RVl_frz H hb l _ _ h3
    exact ⟨zs, h1, by rw [k1]; exact h2, k2⟩
  | .ifc _ x, _, hx => by
    simp only [frzT, RV] at hx ⊢
    obtain ⟨z, h1, h2⟩ := hx
    exact ⟨z, h1, RV_frz H hb x z h2⟩
  | .opt _ x, y, hx => by
    simp only [frzT, RV] at hx ⊢
    exact ⟨fun hg => RV_frz H hb x y (hx.1 hg), hx.2⟩
  | .at b' v o, y, hx => by
    simp only [frzT]
    split
    · rename_i hc
      obtain ⟨rfl, rfl⟩ := hc
      obtain ⟨R, hR, hB⟩ := H.live b' v B hb
      simp only [RV] at hx ⊢
      obtain ⟨p, rfl, h1, h2⟩ := hx
      obtain ⟨q, rfl, rfl, hnm⟩ := h2 R hR
      replace hB := hB.at hnm
      rcases hB with ⟨k0, _, _⟩ | ⟨q', k1, _, _, _, k5⟩
      · cases k0
      cases k1
      refine ⟨_, rfl, rfl, RVl.mono (H.le_frz b') _ _ _ _ (fun j v' hv => ?_) (k5.drop o)⟩
      simp only [Env.frz, hR, if_true]
      exact hv
    · exact RV.mono (H.le_frz b) _ _ hx
  | .mp _ _, y, hx => by simp only [frzT]; exact RV.mono (H.le_frz b) _ _ hx
  | .fn _ _, y, hx => by simp only [frzT]; exact RV.mono (H.le_frz b) _ _ hx
  | .v _, y, hx => by simp only [frzT]; exact RV.mono (H.le_frz b) _ _ hx
  | .isl _ _, y, hx => by simp only [frzT]; exact RV.mono (H.le_frz b) _ _ hx
  | .iat _, y, hx => by simp only [frzT]; exact RV.mono (H.le_frz b) _ _ hx
  | .any, y, hx => by simp only [frzT, RV]
theorem RVl_frz {h : Heap} (H : SatH e E h w) {b ver : Nat} {B : Blk} (hb : getH h b = some (ver, B)) : ∀ (l : List TV) (f : Nat → Option Value) (o : Nat), RVl E l f o → (frzL b ver B l).length = l.length ∧ RVl (E.frz w b) (frzL b ver B l) f o
  | [], _, _, _ => by simp only [frzL, RVl, and_self]
  | x :: l, f, o, hx => by
    simp only [frzL, RVl] at hx ⊢
    obtain ⟨⟨v, h1, h2⟩, h3⟩ := hx
    obtain ⟨k1, k2⟩ := RVl_frz H hb l f (o + 1) h3
    exact ⟨by simp [k1], ⟨v, h1, RV_frz H hb x v h2⟩, k2⟩
end

/-- A BLOCK NEVER CHANGES ANY MORE: what named its slices reads it for good. -/
theorem VLx.frz {r : TV} {h : Heap} {S : TV → Heap → Prop} (b : Nat) {ver : Nat} {B : Blk} (hb : getH h b = some (ver, B)) (k : VLx (frzT b ver B r) (delH h b) S) : VLx r h S := fun e E w v H hr =>
  let ⟨r', h'', E', a, l, c, d⟩ := k e _ w v (H.frz b) (RV_frz H hb r v hr)
  ⟨r', h'', E', a, (H.le_frz b).trans l, c, d⟩
theorem SLx.frz {s : TS} {S : TS → Prop} (b : Nat) {ver : Nat} {B : Blk} (hb : getH s.h b = some (ver, B)) (k : SLx ⟨s.t.map fun p => (p.1, frzT b ver B p.2), delH s.h b⟩ S) : SLx s S := fun e E w tmps H hT => by
  refine SLx.step k (H.le_frz b) (H.frz b) (fun n => ?_)
  have : getT (s.t.map fun p => (p.1, frzT b ver B p.2)) n = frzT b ver B (getT s.t n) := by
    induction s.t with
    | nil => simp [getT, frzT]
    | cons p l ih =>
      obtain ⟨k, x⟩ := p
      simp only [List.map_cons, getT]
      by_cases hn : n = k
      · rw [if_pos hn, if_pos hn]
      · rw [if_neg hn, if_neg hn]; exact ih
  rw [this]
  exact RV_frz H hb _ _ (hT n)

end
end Go.Proofs.YtnkdkajllmopaaaGreat.TL

namespace Go.Proofs.YtnkdkajllmopaaaGreat.TL
open Go
set_option linter.unusedVariables false
set_option linter.unusedSimpArgs false

section
variable {P : Program} {ops : Array Oper}

def todo (listed : Array Bool) : Nat := (listed.toList.filter (!·)).length

theorem filter_set : ∀ (l : List Bool) (i : Nat), l[i]? = some false → ((l.set i true).filter (!·)).length + 1 = (l.filter (!·)).length
  | b :: l, 0, h => by simp at h; subst h; simp
  | b :: l, i + 1, h => by
    have := filter_set l i (by simpa using h)
    cases b <;> simp [List.filter_cons] <;> omega

theorem todo_set {listed : Array Bool} {i : Nat} (h : listed[i]? = some false) : todo (listed.setIfInBounds i true) + 1 = todo listed := by
  unfold todo
  rw [Array.toList_setIfInBounds]
  exact filter_set _ _ (by simpa using h)

/-- Each operation hangs on earlier ones alone. -/
def edgesOk (ops : Array Oper) : Bool := ops.toList.zipIdx.all fun p => p.1.after.all fun e => !Region.binds .any e || decide (e.on < p.2)

theorem wpAny_family {Q : Exit → Act → World → Prop} (I : Array Bool → Act → World → Prop) (hedge : edgesOk ops = true)
    (step : ∀ listed a w i, listed.size = ops.size → I listed a w → i ∈ Region.ready .any ops listed → wpOp P ops Q i (I (listed.setIfInBounds i true)) a w)
    (fin : ∀ listed a w, listed.size = ops.size → (∀ i, i < ops.size → listed.getD i false = true) → I listed a w → Q .normal a w) :
    ∀ (fuel : Nat) (listed : Array Bool) (a : Act) (w : World), listed.size = ops.size → todo listed ≤ fuel → I listed a w → wpAny P .any ops Q fuel listed a w := by
  have hall : ∀ listed : Array Bool, listed.size = ops.size → Region.ready .any ops listed = [] → ∀ i, i < ops.size → listed.getD i false = true := by
    intro listed hs hr i
    induction i using Nat.strongRecOn with
    | _ i ih =>
      intro hi
      cases hb : listed.getD i false with
      | true => rfl
      | false =>
        exfalso
        have hmem : i ∈ Region.ready .any ops listed := by
          rw [mem_ready]
          refine ⟨?_, ops[i], Array.getElem?_eq_getElem hi, fun e he hbind => ?_⟩
          · have hil : i < listed.size := by omega
            simp [Array.getD, hil] at hb ⊢
            exact hb
          · unfold edgesOk at hedge
            rw [List.all_eq_true] at hedge
            have := hedge (ops[i], i) (List.mem_iff_getElem?.2 ⟨i, by simp [List.getElem?_zipIdx, hi]⟩)
            rw [Array.all_eq_true_iff_forall_mem] at this
            have := this e he
            simp [hbind] at this
            exact ih e.on this (by omega)
        rw [hr] at hmem
        cases hmem
  intro fuel
  induction fuel with
  | zero =>
    intro listed a w hs ht hI
    have hr : Region.ready .any ops listed = [] := by
      cases hr : Region.ready .any ops listed with
      | nil => rfl
      | cons i l =>
        exfalso
        have hm : i ∈ Region.ready .any ops listed := by rw [hr]; exact List.mem_cons_self
        rw [mem_ready] at hm
        have h1 : listed[i]? = some false := by
          have := hm.1
          rw [Array.getD_eq_getD_getElem?] at this
          cases hh : listed[i]? with
          | none => rw [hh] at this; simp at this
          | some b => rw [hh] at this; simp at this; rw [this]
        have := todo_set h1
        omega
    exact ⟨hr, fin _ _ _ hs (hall _ hs hr) hI⟩
  | succ fuel ih =>
    intro listed a w hs ht hI
    refine ⟨fun hr => fin _ _ _ hs (hall _ hs hr) hI, fun i hi => ?_⟩
    refine wpOp_mono (fun a' w' hI' => ih _ _ _ (by simpa using hs) ?_ hI') (step _ _ _ _ hs hI hi)
    rw [mem_ready] at hi
    have h1 : listed[i]? = some false := by
      have := hi.1
      rw [Array.getD_eq_getD_getElem?] at this
      cases hh : listed[i]? with
      | none => rw [hh] at this; simp at this
      | some b => rw [hh] at this; simp at this; rw [this]
    have := todo_set h1
    omega

theorem wpOps_mono {Q Q' : Exit → Act → World → Prop} (h : ∀ e a w, Q e a w → Q' e a w) : ∀ (l : List Nat) (a : Act) (w : World), wpOps P ops Q l a w → wpOps P ops Q' l a w
  | [], a, w, hh => h _ _ _ hh
  | i :: l, a, w, hh => by
    simp only [wpOps] at hh ⊢
    cases ho : ops[i]? with
    | none => simp only [ho] at hh; exact wpOps_mono h l a w hh
    | some o =>
      simp only [ho] at hh ⊢
      split
      · rename_i hw
        simp only [hw, if_true] at hh
        rcases hh with hh | ⟨h1, a', w', h2⟩
        · refine .inl ?_
          unfold Oper.wp at *
          generalize (execOp a.eval o).run P w = r at *
          cases r with
          | ok n w' =>
            cases n <;> simp only [Oper.upon] at hh ⊢ <;> first
              | exact wpOps_mono h l _ _ hh
              | exact Calls.mono hh (fun e w'' he => by
                  cases e with
                  | returned v => exact wpOps_mono h l _ _ he
                  | panicked c => exact h _ _ _ he
                  | outgrown => obtain ⟨a', w', hq⟩ := he; exact ⟨a', w', h _ _ _ hq⟩)
              | exact Rows.mono hh (fun _ _ he => wpOps_mono h l _ _ he)
          | halt x w' => cases x <;> simp only [Oper.upon] at hh ⊢ <;> exact h _ _ _ hh
        · exact .inr ⟨h1, a', w', h _ _ _ h2⟩
      · rename_i hw
        simp only [hw] at hh
        exact wpOps_mono h l _ _ hh

/-- What an operation waits for. -/
def after (D : Nat → Bool) : List Edge → Prop → Prop
  | [], C => C
  | e :: l, C => if Region.binds .any e then D e.on = true → after D l C else after D l C
def doneAt (D : Nat → Bool) (i : Nat) : Nat → Bool := fun k => if k = i then true else D k
/-- A family of states: one for each set of operations done (and each choice of versions). -/
def fam (S : (Nat → Bool) → (Nat → Nat) → TS) (D : Nat → Bool) (s : TS) : Prop := ∃ ν, s = S D ν
def famSteps (P : Program) (ops : Array Oper) (S : (Nat → Bool) → (Nat → Nat) → TS) (D : Nat → Bool) (ν : Nat → Nat) : Nat → List Oper → Prop
  | _, [] => True
  | i, o :: l => (D i = false → after D o.after.toList (stepT P ops o (S D ν) fun s' => SLx s' (fam S (doneAt D i)))) ∧ famSteps P ops S D ν (i + 1) l

theorem after_of {D : Nat → Bool} : ∀ {l : List Edge} {C : Prop}, after D l C → (∀ e ∈ l, Region.binds .any e = true → D e.on = true) → C
  | [], C, h, _ => h
  | e :: l, C, h, hd => by
    simp only [after] at h
    split at h
    · rename_i hb; exact after_of (h (hd e List.mem_cons_self hb)) fun e' he => hd e' (List.mem_cons_of_mem _ he)
    · exact after_of h fun e' he => hd e' (List.mem_cons_of_mem _ he)
theorem famSteps_cons {S : (Nat → Bool) → (Nat → Nat) → TS} {D : Nat → Bool} {ν : Nat → Nat} {k : Nat} {o : Oper} {l : List Oper} : famSteps P ops S D ν k (o :: l) = ((D k = false → after D o.after.toList (stepT P ops o (S D ν) fun s' => SLx s' (fam S (doneAt D k)))) ∧ famSteps P ops S D ν (k + 1) l) := rfl
theorem famSteps_at {S : (Nat → Bool) → (Nat → Nat) → TS} {D : Nat → Bool} {ν : Nat → Nat} (l : List Oper) : ∀ (k i : Nat) (o : Oper), famSteps P ops S D ν k l → l[i]? = some o → D (k + i) = false →
    after D o.after.toList (stepT P ops o (S D ν) fun s' => SLx s' (fam S (doneAt D (k + i)))) := by
  induction l with
  | nil => intro k i o _ hi; simp at hi
  | cons x l ih =>
    intro k i o h hi hD
    rw [famSteps_cons] at h
    obtain ⟨h1, h2⟩ := h
    cases i with
    | zero =>
      rw [List.getElem?_cons_zero, Option.some.injEq] at hi
      subst hi
      rw [Nat.add_zero] at hD ⊢
      exact h1 hD
    | succ i =>
      rw [List.getElem?_cons_succ] at hi
      have e1 : k + 1 + i = k + (i + 1) := by omega
      have := ih (k + 1) i o h2 hi (by rw [e1]; exact hD)
      rw [e1] at this
      exact this

/-- One operation, whatever comes behind it. -/
theorem stepT_wpOp {e : Ent} {E0 E : Env} {s : TS} {nt i : Nat} {df : List Deferred} {o : Oper} {K : TS → Prop} {Q : Exit → Act → World → Prop} {a : Act} {w : World} (hi : ops[i]? = some o) (hd : ∀ d, o.dst = some d → d < nt)
    (h : stepT P ops o s K) (l0 : E0.Le E) (H : SatH e E s.h w) (hT : SatT E s.t a.tmps) (hn : a.tmps.size = nt) (hdf : a.defers = df) :
    wpOp P ops Q i (fun a' w' => ∃ s' E', K s' ∧ E0.Le E' ∧ SatH e E' s'.h w' ∧ SatT E' s'.t a'.tmps ∧ a'.tmps.size = nt ∧ a'.defers = df) a w := by
  -- the region of this operation alone, behind the others
  have next : ∀ r v h' E' w', K (s.to o.dst r h') → E.Le E' → SatH e E' h' w' → RV E' r v → ∃ s' E'', K s' ∧ E0.Le E'' ∧ SatH e E'' s'.h w' ∧ SatT E'' s'.t (a.put o.dst v).tmps ∧ (a.put o.dst v).tmps.size = nt ∧ (a.put o.dst v).defers = df := fun r v h' E' w' k1 k2 k3 k4 => by
    obtain ⟨m1, m2, m3⟩ := put_sat (h' := h') hT k2 hn hd k4
    exact ⟨_, E', k1, l0.trans k2, k3, m1, m2, m3.trans hdf⟩
  unfold wpOp
  simp only [hi]
  unfold stepT at h
  split at h
  · rename_i hg
    have hw : Region.wanted o (yielded ops a.tmps) = true := by simp [Region.wanted, hg]
    rw [if_pos hw]
    refine .inl ?_
    split at h
    · rename_i p hq
      obtain ⟨v, k1, k2⟩ := qop_sound H (ev_sound H.glo hT) hq h.1
      unfold Oper.wp
      rw [k2, Oper.upon_value]
      exact next _ _ _ E w h.2 (Env.Le.refl E) H k1
    · exact effT_wp H (ev_sound H.glo hT) h next
  · rename_i j want hg
    split at h
    · rename_i gs hb
      obtain ⟨x, hx, hgs⟩ := Option.bind_eq_some_iff.1 hb
      obtain ⟨d, hd1, hd2⟩ := Option.map_eq_some_iff.1 hx
      have hbv := hT d
      rw [hd2] at hbv
      have hiff := guard_wanted hgs hbv
      have hw : Region.wanted o (yielded ops a.tmps) = allB gs := by
        have h1 : Region.wanted o (yielded ops a.tmps) = true ↔ a.tmps.getD d undef = .bool want := by
          rw [Array.getD_eq_getD_getElem?]
          simp only [Region.wanted, hg, yielded, hd1, Option.bind_some]
          cases hh : a.tmps[d]? with
          | none => simp [undef]
          | some v => cases v <;> simp
        rw [← hiff] at h1
        cases hA : allB gs <;> cases hB : Region.wanted o (yielded ops a.tmps) <;> simp_all
      rw [hw]
      cases ht : allB gs with
      | true =>
        rw [if_pos rfl]
        refine .inl ?_
        split at h
        · rename_i p hq
          obtain ⟨v, k1, k2⟩ := qop_sound (ρ := a.eval) H (fun x => RV_stripL (ev_sound H.glo hT x) ht) hq (impL_of h.1 ht)
          unfold Oper.wp
          rw [k2, Oper.upon_value]
          exact next _ _ _ E w h.2 (Env.Le.refl E) H (RV_optL (fun _ => k1) fun hf => by rw [ht] at hf; cases hf)
        · rw [ht, guardE_true] at h
          exact effT_wp (s := stripS gs s) H (ev_stripS H.glo hT ht) h next
      | false =>
        rw [if_neg (by simp)]
        split at h
        · exact next _ _ _ E w h.2 (Env.Le.refl E) H (RV_optL (fun hf => by rw [ht] at hf; cases hf) fun _ => rfl)
        · rw [ht, guardE_false] at h
          exact next _ _ _ E w h (Env.Le.refl E) H (RV_optL (fun hf => by rw [ht] at hf; cases hf) fun _ => rfl)
    · exact h.elim

/-- A REGION WHOSE ORDER IS DRAWN, by what holds of the state when some operations are done. -/
theorem draw_F {s : TS} {K : TS → Prop} (hm : P.follows .mixedOrders = true) (hedge : edgesOk ops = true) (F : (Nat → Bool) → TS → Prop)
    (h0 : SLx s (F fun _ => false)) (hstep : ∀ D s', F D s' → ∀ i o, ops[i]? = some o → D i = false → (∀ e ∈ o.after, Region.binds .any e = true → D e.on = true) → stepT P ops o s' fun s'' => SLx s'' (F (doneAt D i)))
    (hend : ∀ D s', (∀ i, i < ops.size → D i = true) → F D s' → K s') : drawT P ops s K := by
  intro nt hdst e E w a H hT hn t
  simp only [Region.schedule, hm, Bool.true_or, if_true]
  unfold Region.linearise
  refine wpAny_sound ops.size t _ a w ?_
  generalize hdf : a.defers = df
  refine wpAny_family (fun listed a w => ∃ s' E', F (fun i => listed.getD i false) s' ∧ E.Le E' ∧ SatH e E' s'.h w ∧ SatT E' s'.t a.tmps ∧ a.tmps.size = nt ∧ a.defers = df) hedge ?_ ?_ _ _ a w (by simp) (by
    unfold todo
    exact Nat.le_trans (List.length_filter_le _ _) (by simp)) ?_
  · rintro listed a1 w1 i hs ⟨s1, E1, hF, l1, H1, hT1, hn1, hd1⟩ hi
    rw [mem_ready] at hi
    obtain ⟨hi0, o, ho, hall⟩ := hi
    have hil : i < ops.size := (Array.getElem?_eq_some_iff.1 ho).1
    have hD : listed.getD i false = false := by
      have hl : i < listed.size := by omega
      simp [Array.getD, hl] at hi0 ⊢
      exact hi0
    refine wpOp_mono (fun a2 w2 hh => ?_) (stepT_wpOp ho (fun d hd => hdst i o d ho hd) (hstep _ s1 hF i o ho hD (fun e he hb => hall e he hb)) l1 H1 hT1 hn1 hd1)
    obtain ⟨s', E2, k1, k2, k3, k4, k5, k6⟩ := hh
    obtain ⟨s3, E3, hF3, l3, H3, hT3⟩ := k1 e E2 w2 a2.tmps k3 k4
    have hfun : (fun k => (listed.setIfInBounds i true).getD k false) = doneAt (fun i => listed.getD i false) i := by
      funext k
      simp only [doneAt]
      by_cases hk : k = i
      · subst hk
        have hl : k < listed.size := by omega
        simp [hl]
      · rw [if_neg hk]
        exact getD_set_ne false (Ne.symm hk)
    rw [hfun]
    exact ⟨s3, E3, hF3, k2.trans l3, H3, hT3, k5, k6⟩
  · rintro listed a1 w1 hs hall ⟨s1, E1, hF, l1, H1, hT1, hn1, hd1⟩
    exact ⟨rfl, s1, E1, hend _ s1 hall hF, l1, H1, hT1, hn1, hd1⟩
  · obtain ⟨s1, E1, hF, l1, H1, hT1⟩ := h0 e E w a.tmps H hT
    have hfun : (fun k => (Array.replicate ops.size false).getD k false) = fun _ => false := by
      funext k
      simp only [Array.getD_eq_getD_getElem?, Array.getElem?_replicate]
      split <;> rfl
    rw [hfun]
    exact ⟨s1, E1, hF, l1, H1, hT1, hn, hdf⟩

/-- The same, by a family of states that is written. -/
theorem draw_family {s : TS} {K : TS → Prop} (hm : P.follows .mixedOrders = true) (hedge : edgesOk ops = true) (S : (Nat → Bool) → (Nat → Nat) → TS)
    (h0 : SLx s (fam S fun _ => false)) (hstep : ∀ D ν, famSteps P ops S D ν 0 ops.toList) (hend : ∀ D ν, (∀ i, i < ops.size → D i = true) → K (S D ν)) : drawT P ops s K := by
  refine draw_F hm hedge (fam S) h0 (fun D s' ⟨ν, hs'⟩ i o ho hD hall => ?_) fun D s' hall ⟨ν, hs'⟩ => hs' ▸ hend D ν hall
  subst hs'
  have := after_of (famSteps_at ops.toList 0 i o (hstep D ν) (by simpa using ho) (by simpa using hD)) (fun e he hb => hall e (by simpa using he) hb)
  simpa using this

/-- Arguments, a heap that say no less than some of S. -/
def CLx (args : List TV) (h : Heap) (S : List TV → Heap → Prop) : Prop := ∀ (e : Ent) (E : Env) (w : World) (f : Nat → Option Value), SatH e E h w → RVl E args f 0 → ∃ args' h' E', S args' h' ∧ args'.length = args.length ∧ E.Le E' ∧ SatH e E' h' w ∧ RVl E' args' f 0
theorem CLx.done {args : List TV} {h : Heap} {S : List TV → Heap → Prop} (hS : S args h) : CLx args h S := fun _ E _ _ h1 h2 => ⟨args, h, E, hS, rfl, Env.Le.refl E, h1, h2⟩
/-- A call, its arguments and blocks seen otherwise first. -/
theorem callT.pre {f : Nat} {args : List TV} {s : TS} {K : TV → Heap → Prop} (hg : ∃ fn, P.funcs[f]? = some fn ∧ (fn.name == "runtime.NumGoroutine") = false ∧ fn.body.isNone = false) (h : CLx args s.h fun args' h' => callT P f args' ⟨[], h'⟩ K) : callT P f args s K :=
  ⟨hg, fun e E w vs H hl hv => by
    obtain ⟨args', h', E1, hc, hlen, l1, H1, hv1⟩ := h e E w _ H hv
    refine (hc.2 e E1 w vs H1 (by rw [hlen]; exact hl) hv1).mono fun en w1 ⟨v, r, h2, E2, hen, hQ, l2, H2, hr⟩ => ⟨v, r, h2, E2, hen, hQ, l1.trans l2, H2, hr⟩⟩

/-- A nil slice in a block's cell as a slice of a block without memory. -/
theorem CLx.nilCell {args : List TV} {h : Heap} {S : List TV → Heap → Prop} (i j b k : Nat) {ver : Nat} {B : Blk} (hk : k ≠ 0) (hbi : b ≠ i) (hi : getH h i = some (ver, B)) (hj : B.cells[j]? = some (.v (.slice none 0 0)))
    (n : ∀ v, CLx args (setH (setH h b (v, ⟨k, []⟩)) i (ver, ⟨B.k, B.cells.set j (.sl b v 0 0)⟩)) S) : CLx args h S := fun e E w f H hv => by
  have H1 := H.nil b k hk
  have hle := H.le_slot b none
  have hi1 : getH (setH h b (E.c + 1, ⟨k, []⟩)) i = some (ver, B) := by rw [getH_setH, if_neg (Ne.symm hbi)]; exact hi
  have H2 : SatH e (E.slot b none) (setH (setH h b (E.c + 1, ⟨k, []⟩)) i (ver, ⟨B.k, B.cells.set j (.sl b (E.c + 1) 0 0)⟩)) w := by
    refine ⟨H1.imm, fun x ver' B' hx => ?_, fun x hx => ?_, H1.vers, H1.ownd, H1.apart, H1.gr⟩
    · rw [getH_setH] at hx
      by_cases hxi : x = i
      · subst hxi
        rw [if_pos rfl] at hx
        cases hx
        obtain ⟨R, hR, hB⟩ := H1.live x ver B hi1
        refine ⟨R, hR, ?_⟩
        refine BlkRel.conv (B := B) rfl (by simp) (fun f o b5 => ?_) hB
        · refine RVl.of fun y z hz => ?_
          rw [List.getElem?_set] at hz
          split at hz
          · rename_i hy
            subst hy
            obtain ⟨v, v1, v2⟩ := b5.get _ _ hj
            simp only [RV] at v2
            subst v2
            split at hz
            · cases hz; exact ⟨_, v1, nil_new (s := ⟨[], h⟩) H⟩
            · cases hz
          · exact b5.get _ _ hz
      · rw [if_neg hxi] at hx
        exact H1.live x ver' B' hx
    · rw [getH_setH] at hx
      by_cases hxi : x = i
      · rw [if_pos hxi] at hx; cases hx
      · rw [if_neg hxi] at hx; exact H1.dead x hx
  obtain ⟨args', h', E', a, hl, l, c, d⟩ := n (E.c + 1) e _ w f H2 (RVl.mono hle _ _ _ _ (fun _ _ x => x) hv)
  exact ⟨args', h', E', a, hl, hle.trans l, c, d⟩

/-- A block never changes any more. -/
theorem CLx.frz {args : List TV} {h : Heap} {S : List TV → Heap → Prop} (b : Nat) {ver : Nat} {B : Blk} (hb : getH h b = some (ver, B)) (k : CLx (frzL b ver B args) (delH h b) S) : CLx args h S := fun e E w f H hv => by
  obtain ⟨k1, k2⟩ := RVl_frz H hb args f 0 hv
  obtain ⟨args', h', E', a, hl, l, c, d⟩ := k e _ w f (H.frz b) k2
  exact ⟨args', h', E', a, by rw [hl, k1], (H.le_frz b).trans l, c, d⟩

/- States of a family, written: what is there if it was done. -/
def onD {α : Type} (D : Nat → Bool) : List (Nat × α) → List α
  | [] => []
  | (i, x) :: l => if D i then x :: onD D l else onD D l

theorem getT_onD {D : Nat → Bool} {i d n : Nat} {x : TV} {l : List (Nat × Nat × TV)} {b : List (Nat × TV)} : getT (onD D ((i, d, x) :: l) ++ b) n = if n = d then (if D i then x else getT (onD D l ++ b) n) else getT (onD D l ++ b) n := by
  simp only [onD]
  cases D i
  · simp
  · by_cases h : n = d <;> simp [getT, h]
theorem all_onD {α : Type} {D : Nat → Bool} {i : Nat} {x : α} {l : List (Nat × α)} {φ : α → Prop} : (∀ p ∈ onD D ((i, x) :: l), φ p) ↔ (D i = true → φ x) ∧ ∀ p ∈ onD D l, φ p := by
  simp only [onD]
  cases D i <;> simp
end
end Go.Proofs.YtnkdkajllmopaaaGreat.TL

namespace Go.Proofs.YtnkdkajllmopaaaGreat.TL
open Go
set_option linter.unusedVariables false
set_option linter.unusedSimpArgs false

/-- The operands of an operation. -/
def opnds : Op → List Operand
  | .move x | .assign x | .load _ x | .nilCheck x | .unOp _ _ x | .convert _ _ x | .extract x _ | .makeInterface _ x | .fieldAddr _ x _ | .field _ x _ => [x]
  | .pick c a b => [c, a, b]
  | .build _ ps | .buildSlice _ _ ps => ps.toList.map (·.2)
  | .store _ a x => [a, x]
  | .box _ x => [x]
  | .binOp _ _ x y _ => [x, y]
  | .slice _ x lo hi none => x :: (lo.toList ++ hi.toList)
  | .slice _ x (some lo) (some hi) (some m) => [x, lo, hi, m]
  | .indexAddr _ x i | .index _ x i => [x, i]
  | .call { callee := .builtin _, args, .. } => args.toList
  | .call { callee := .value f, args, .. } => f :: args.toList
  | .call { callee := .invoke x _, args, .. } => x :: args.toList
  | .typeAssert x _ _ _ => [x]
  | .lookup _ x i _ => [x, i]
  | .makeFunc _ _ caps => caps.toList
  | .mapUpdate _ m k x => [m, k, x]
  | .makeSlice _ n c => [n, c]
  | _ => []

section
variable {P : Program} {ops : Array Oper}

theorem qop_congr {s s' : TS} {ev ev' : Operand → TV} {op : Op} (hh : s.h = s'.h) (h : ∀ x ∈ opnds op, ev x = ev' x) : qop P s ev op = qop P s' ev' op := by
  unfold qop
  split <;> simp only [opnds, List.mem_cons, List.mem_append, List.not_mem_nil, or_false, forall_eq_or_imp, forall_eq, Option.mem_toList] at h <;> try (simp only [h]; done)
  · congr 2
    exact List.map_congr_left fun p hp => by rw [h _ (List.mem_map.2 ⟨p, hp, rfl⟩)]
  · rw [h]; unfold qload; rw [hh]
  · rw [h]
    split
    · rfl
    · unfold qconv; rw [hh]
  · rw [h.1]
    congr 1
    rename_i lo hi
    have e1 : Option.map ev lo = Option.map ev' lo := by cases lo with | none => rfl | some x => simp [h.2 x (.inl rfl)]
    have e2 : Option.map ev hi = Option.map ev' hi := by cases hi with | none => rfl | some x => simp [h.2 x (.inr rfl)]
    rw [e1, e2]
    unfold qslice
    rw [hh]
  · rw [h.1, h.2]; unfold qlook; rw [hh]
  · congr 3
    exact List.map_congr_left fun p hp => h _ hp
  · split <;> simp_all [qlenM]

/-- A call that leaves all as it is. -/
def callsT (P : Program) (s : TS) (op : Op) (R : TV) : Prop :=
  match op with
  | .call { callee := .value f, args, .. } => funT P (args.toList.map s.ev) s (s.ev f) fun r h => r = R ∧ h = s.h
  | .call { callee := .invoke x name, args, .. } => invT P (args.toList.map s.ev) s (s.ev x) name fun r h => r = R ∧ h = s.h
  | _ => False
def sameH (a b : Heap) : Prop := a = b
theorem sameH_go {a : Heap} {C : Heap → Prop} (h : C a) : ∀ h', sameH h' a → C h' := fun h' e => by unfold sameH at e; subst e; exact h

/-- An operation that changes nothing. -/
def qstepT (P : Program) (ops : Array Oper) (o : Oper) (s : TS) (K : TV → Heap → Prop) : Prop :=
  match o.guard with
  | none => match qop P s s.ev o.op with
    | some p => p.1 ∧ K p.2 s.h
    | none => ∃ R, callsT P s o.op R ∧ ∀ h', sameH h' s.h → K R h'
  | some (j, want) => match (((ops[j]?).bind (·.dst)).map (getT s.t)).bind (guardOf want) with
    | some gs => match qop P s (fun x => stripL gs (s.ev x)) o.op with
      | some p => impL gs p.1 ∧ K (optL gs p.2) s.h
      | none => ∃ R, impL gs (callsT P (stripS gs s) o.op R) ∧ ∀ h', sameH h' s.h → K (optL gs R) h'
    | none => False
def quietT (P : Program) (ops : Array Oper) : List Oper → TS → (TS → Prop) → Prop
  | [], s, K => K s
  | o :: l, s, K => qstepT P ops o s fun v h => quietT P ops l ⟨(o.dst.getD 0, v) :: s.t, h⟩ K

theorem funT_h {args : List TV} {s s' : TS} {f : TV} {K : TV → Heap → Prop} (hh : s.h = s'.h) (h : funT P args s f K) : funT P args s' f K := by
  have e1 : ∀ s : TS, funT P args s f K = funT P args ⟨[], s.h⟩ f K := fun s => by unfold funT; rfl
  rw [e1] at h ⊢
  rw [← hh]
  exact h
theorem invT_h {args : List TV} {s s' : TS} {f : TV} {n : String} {K : TV → Heap → Prop} (hh : s.h = s'.h) (h : invT P args s f n K) : invT P args s' f n K := by
  have e1 : ∀ s : TS, invT P args s f n K = invT P args ⟨[], s.h⟩ f n K := fun s => by unfold invT; rfl
  rw [e1] at h ⊢
  rw [← hh]
  exact h
theorem callsT_congr {s s' : TS} {op : Op} {R : TV} (hh : s.h = s'.h) (hx : ∀ x ∈ opnds op, s.ev x = s'.ev x) (h : callsT P s op R) : callsT P s' op R := by
  unfold callsT at h ⊢
  split
  · rename_i f args _
    simp only [opnds, List.mem_cons, forall_eq_or_imp] at hx
    simp only at h
    rw [← hx.1, ← hh, ← List.map_congr_left hx.2]
    exact funT_h hh h
  · rename_i x n args _
    simp only [opnds, List.mem_cons, forall_eq_or_imp] at hx
    simp only at h
    rw [← hx.1, ← hh, ← List.map_congr_left hx.2]
    exact invT_h hh h
  · rename_i hno hno2
    split at h
    · exact (hno _ _ _ rfl).elim
    · exact (hno2 _ _ _ _ rfl).elim
    · exact h
theorem funT_mono {args : List TV} {s : TS} {f : TV} {K K' : TV → Heap → Prop} (hk : ∀ r h, K r h → K' r h) (h : funT P args s f K) : funT P args s f K' := by
  unfold funT at h ⊢
  split at h
  · exact ⟨h.1, h.2.1, h.2.2.mono fun r h hr => VLx.done (hk r h hr)⟩
  · exact h.mono fun r h hr => VLx.done (hk r h hr)
  · exact h.elim
theorem invT_mono {args : List TV} {s : TS} {f : TV} {n : String} {K K' : TV → Heap → Prop} (hk : ∀ r h, K r h → K' r h) (h : invT P args s f n K) : invT P args s f n K' := by
  unfold invT at h ⊢
  split at h
  · split at h
    · exact h.mono fun r h hr => VLx.done (hk r h hr)
    · exact h.elim
  · exact h.elim
theorem effT_of_calls {d : Nat} {s : TS} {op : Op} {R : TV} {K : TV → Heap → Prop} (h : callsT P s op R) (hK : K R s.h) : effT P d op s K := by
  unfold callsT at h
  split at h
  · exact funT_mono (fun r h ⟨e1, e2⟩ => by subst e1 e2; exact hK) h
  · exact invT_mono (fun r h ⟨e1, e2⟩ => by subst e1 e2; exact hK) h
  · exact h.elim
theorem stripS_ev (gs : List Bool) (s : TS) (x : Operand) : (stripS gs s).ev x = stripL gs (s.ev x) := by
  have hv : ∀ (gs : List Bool) (x : TV), (∀ g y, x ≠ .opt g y) → stripL gs x = x := fun gs x hx => by
    induction gs with
    | nil => rfl
    | cons g l ih =>
      have e : strip g x = x := by
        unfold strip
        split
        · rename_i g' y
          exact absurd rfl (hx g' y)
        · rfl
      simpa [stripL, e] using ih
  cases x with
  | tmp t => exact getT_strip gs t s.t
  | const v => exact (hv gs _ (fun _ _ h => by cases h)).symm
  | global g =>
    refine (hv gs _ fun g' y h => ?_).symm
    simp only [TS.ev] at h
    split at h <;> cases h
  | func f => exact (hv gs _ (fun _ _ h => by cases h)).symm

theorem qstepT_get {o : Oper} {s : TS} {K : TV → Heap → Prop} (h : qstepT P ops o s K) : ∃ v, K v s.h ∧ qstepT P ops o s fun x _ => x = v := by
  unfold qstepT at h
  split at h
  · rename_i hg
    split at h
    · rename_i p hq
      exact ⟨p.2, h.2, by unfold qstepT; rw [hg]; simp only [hq]; exact ⟨h.1, trivial⟩⟩
    · rename_i hq
      obtain ⟨R, h1, h2⟩ := h
      exact ⟨R, h2 _ rfl, by unfold qstepT; rw [hg]; simp only [hq]; exact ⟨R, h1, fun _ _ => rfl⟩⟩
  · rename_i j want hg
    split at h
    · rename_i gs hb
      split at h
      · rename_i p hq
        exact ⟨optL gs p.2, h.2, by unfold qstepT; rw [hg]; simp only [hb, hq]; exact ⟨h.1, trivial⟩⟩
      · rename_i hq
        obtain ⟨R, h1, h2⟩ := h
        exact ⟨optL gs R, h2 _ rfl, by unfold qstepT; rw [hg]; simp only [hb, hq]; exact ⟨R, h1, fun _ _ => rfl⟩⟩
    · exact h.elim

/-- The temporaries an operation reads. -/
def reads (ops : Array Oper) (o : Oper) : List Nat :=
  (opnds o.op).filterMap (fun x => match x with | .tmp t => some t | _ => none) ++ match o.guard with | some (j, _) => (((ops[j]?).bind (·.dst))).toList | none => []

theorem qstepT_stepT {o : Oper} {d : Nat} {s s' : TS} {v : TV} (hd : o.dst = some d) (hh : s.h = s'.h) (hr : ∀ x ∈ reads ops o, getT s.t x = getT s'.t x) (h : qstepT P ops o s fun x _ => x = v) {F : TS → Prop} (hK : SLx ⟨(d, v) :: s'.t, s'.h⟩ F) : stepT P ops o s' fun s1 => SLx s1 F := by
  have hK2 : ∀ x, x = s'.h → SLx (s'.to o.dst v x) F := fun x e => by subst e; simpa [TS.to, hd] using hK
  have hx : ∀ x ∈ opnds o.op, s.ev x = s'.ev x := fun x hx => by
    cases x with
    | tmp t => exact hr t (List.mem_append_left _ (List.mem_filterMap.2 ⟨.tmp t, hx, rfl⟩))
    | const v => rfl
    | global g => rfl
    | func f => rfl
  unfold qstepT at h
  split at h
  · rename_i hg
    rw [qop_congr hh hx] at h
    unfold stepT
    rw [hg]
    simp only
    split at h
    · rename_i p hq
      obtain ⟨h1, rfl⟩ := h
      simp only [hq]
      exact ⟨h1, hK2 _ rfl⟩
    · rename_i hq
      obtain ⟨R, h1, h2⟩ := h
      obtain rfl := h2 _ rfl
      simp only [hq]
      exact effT_of_calls (callsT_congr hh hx h1) (hK2 _ rfl)
  · rename_i j want hg
    have hgd : ((ops[j]?).bind (·.dst)).map (getT s.t) = ((ops[j]?).bind (·.dst)).map (getT s'.t) := by
      cases hj : (ops[j]?).bind (·.dst) with
      | none => rfl
      | some t =>
        simp only [Option.map_some]
        rw [hr t (List.mem_append_right _ (by simp [hg, hj]))]
    rw [hgd] at h
    unfold stepT
    rw [hg]
    simp only
    split at h
    · rename_i gs hb
      have hx2 : ∀ x ∈ opnds o.op, (stripS gs s).ev x = (stripS gs s').ev x := fun x hxm => by rw [stripS_ev, stripS_ev, hx x hxm]
      rw [qop_congr (s' := s') (ev' := fun x => stripL gs (s'.ev x)) hh (fun x hxm => by rw [hx x hxm])] at h
      simp only [hb]
      split at h
      · rename_i p hq
        obtain ⟨h1, rfl⟩ := h
        simp only [hq]
        exact ⟨h1, hK2 _ rfl⟩
      · rename_i hq
        obtain ⟨R, h1, h2⟩ := h
        obtain rfl := h2 _ rfl
        simp only [hq]
        have conv : ∀ R', (∀ (E : Env) (y : Value), RV E R' y → RV E (optL gs R) y) → SLx (s'.to o.dst R' s'.h) F := fun R' hR e E w tm a b => hK2 s'.h rfl e E w tm a fun n => by
          have := b n
          simp only [TS.to, hd, getT] at this ⊢
          split
          · rename_i hn; rw [if_pos hn] at this; exact hR _ _ this
          · rename_i hn; rw [if_neg hn] at this; exact this
        refine guardE_fork (fun hg => ?_) fun hg => ?_
        · exact effT_of_calls (callsT_congr (s := stripS gs s) (s' := stripS gs s') hh hx2 (impL_of h1 hg)) (conv R fun E y hy => RV_optL (fun _ => hy) fun hf => by rw [hg] at hf; cases hf)
        · refine conv _ fun E y hy => RV_optL (fun hf => by rw [hg] at hf; cases hf) fun _ => ?_
          have und : ∀ gs : List Bool, allB gs = false → RV E (optL gs .any) y → y = undef := fun gs => by
            induction gs with
            | nil => intro hf; cases hf
            | cons g l ih =>
              intro hf hy
              simp only [optL, RV] at hy
              cases g with
              | false => exact hy.2 rfl
              | true => exact ih (by simpa [allB] using hf) (hy.1 rfl)
          exact und gs hg hy
    · exact h.elim

/-- Where an operation's answer lies. -/
def dstAt (ops : Array Oper) (i : Nat) : Nat := ((ops[i]?).bind (·.dst)).getD 0
/-- Each of these operations (from the first on, n of them) has a slot of its own and reads only what it waits for. -/
def quietB (ops : Array Oper) (n : Nat) : Bool :=
  (List.range n).all fun i => match ops[i]? with
    | some o => o.dst.isSome && ((reads ops o).all fun x => (List.range n).all fun j => decide (dstAt ops j ≠ x) || (decide (j < i) && o.after.any fun e => Region.binds .any e && decide (e.on = j))) &&
        (List.range n).all fun j => decide (j = i) || decide (dstAt ops j ≠ dstAt ops i)
    | none => false

def tAt (ops : Array Oper) (val : Nat → TV) (t : List (Nat × TV)) (L : List Nat) : List (Nat × TV) := L.map (fun j => (dstAt ops j, val j)) ++ t

theorem getT_tAt {val : Nat → TV} {t : List (Nat × TV)} {x j : Nat} : ∀ {L : List Nat}, j ∈ L → dstAt ops j = x → (∀ i ∈ L, dstAt ops i = x → i = j) → getT (tAt ops val t L) x = val j
  | i :: L, hj, hx, hu => by
    simp only [tAt, List.map_cons, List.cons_append, getT]
    by_cases hi : x = dstAt ops i
    · rw [if_pos hi, hu i List.mem_cons_self hi.symm]
    · rw [if_neg hi]
      refine getT_tAt (L := L) ?_ hx fun k hk => hu k (List.mem_cons_of_mem _ hk)
      rcases List.mem_cons.1 hj with rfl | h
      · exact (hi hx.symm).elim
      · exact h
theorem getT_tAt_no {val : Nat → TV} {t : List (Nat × TV)} {x : Nat} : ∀ {L : List Nat}, (∀ i ∈ L, dstAt ops i ≠ x) → getT (tAt ops val t L) x = getT t x
  | [], _ => rfl
  | i :: L, hu => by
    simp only [tAt, List.map_cons, List.cons_append, getT]
    rw [if_neg (Ne.symm (hu i List.mem_cons_self))]
    exact getT_tAt_no (L := L) fun k hk => hu k (List.mem_cons_of_mem _ hk)
theorem tAt_val {val val' : Nat → TV} {t : List (Nat × TV)} {L : List Nat} (h : ∀ j ∈ L, val j = val' j) : tAt ops val t L = tAt ops val' t L := by
  unfold tAt
  rw [List.map_congr_left fun j hj => by rw [h j hj]]

theorem quiet_vals {t : List (Nat × TV)} {h : Heap} {K : TS → Prop} : ∀ (l : List Oper) (k : Nat) (val : Nat → TV), (∀ i o, l[i]? = some o → ops[k + i]? = some o ∧ o.dst.isSome = true) → quietT P ops l ⟨tAt ops val t (List.range k).reverse, h⟩ K →
    ∃ val', (∀ j, j < k → val' j = val j) ∧ K ⟨tAt ops val' t (List.range (k + l.length)).reverse, h⟩ ∧ ∀ i o, l[i]? = some o → qstepT P ops o ⟨tAt ops val' t (List.range (k + i)).reverse, h⟩ fun x _ => x = val' (k + i)
  | [], k, val, hl, hq => ⟨val, fun _ _ => rfl, hq, fun i o hi => by simp at hi⟩
  | o :: l, k, val, hl, hq => by
    simp only [quietT] at hq
    obtain ⟨v, hq1, hq2⟩ := qstepT_get hq
    obtain ⟨ho, hod⟩ := hl 0 o rfl
    rw [Nat.add_zero] at ho
    have hdst : o.dst.getD 0 = dstAt ops k := by simp [dstAt, ho]
    let val1 : Nat → TV := fun j => if j = k then v else val j
    have e1 : tAt ops val1 t (List.range (k + 1)).reverse = (o.dst.getD 0, v) :: tAt ops val t (List.range k).reverse := by
      rw [List.range_succ, List.reverse_append, List.reverse_singleton, List.singleton_append]
      simp only [tAt, List.map_cons, List.cons_append, hdst, val1, if_true]
      congr 2
      exact List.map_congr_left fun j hj => by rw [if_neg (by simp at hj; omega)]
    obtain ⟨val', h1, h2, h3⟩ := quiet_vals l (k + 1) val1 (fun i o hi => by have := hl (i + 1) o (by simpa using hi); rwa [show k + (i + 1) = k + 1 + i by omega] at this) (by rw [e1]; exact hq1)
    refine ⟨val', fun j hj => by rw [h1 j (by omega)]; simp only [val1]; rw [if_neg (by omega)], ?_, fun i o' hi => ?_⟩
    · rw [List.length_cons, show k + (l.length + 1) = k + 1 + l.length by omega]; exact h2
    · cases i with
      | zero =>
        simp at hi
        subst hi
        rw [Nat.add_zero]
        have hv : val' k = v := by rw [h1 k (by omega)]; simp only [val1, if_true]
        rw [hv, tAt_val (val := val') (val' := val) fun j hj => by rw [h1 j (by simp at hj; omega)]; simp only [val1]; rw [if_neg (by simp at hj; omega)]]
        exact hq2
      | succ i =>
        have := h3 i o' (by simpa using hi)
        rwa [show k + 1 + i = k + (i + 1) by omega] at this

/-- The state when the operations of D are done. -/
def stAt (ops : Array Oper) (val : Nat → TV) (t : List (Nat × TV)) (h : Heap) (n : Nat) (D : Nat → Bool) : TS := ⟨tAt ops val t ((List.range n).reverse.filter D), h⟩

theorem SLx.ext {s s' : TS} {S : TS → Prop} (hS : S s') (ht : ∀ n, getT s'.t n = getT s.t n) (hh : s'.h = s.h) : SLx s S := fun _ E _ _ h1 h2 => ⟨s', E, hS, Env.Le.refl E, by rw [hh]; exact h1, fun n => by rw [ht]; exact h2 n⟩

theorem quiet_step {t : List (Nat × TV)} {h : Heap} {val : Nat → TV} {n : Nat} (hB : quietB ops n = true) {D : Nat → Bool} {i : Nat} {o : Oper} (hin : i < n) (ho : ops[i]? = some o) (hD : D i = false) (hall : ∀ e ∈ o.after, Region.binds .any e = true → D e.on = true)
    (hq : qstepT P ops o ⟨tAt ops val t (List.range i).reverse, h⟩ fun x _ => x = val i) : stepT P ops o (stAt ops val t h n D) fun s' => SLx s' fun s2 => s2 = stAt ops val t h n (doneAt D i) := by
  have hBi := List.all_eq_true.1 hB i (by simpa using hin)
  simp only [ho, Bool.and_eq_true, List.all_eq_true, List.mem_range, Bool.or_eq_true, decide_eq_true_eq, Array.any_eq_true'] at hBi
  obtain ⟨⟨hd, hrd⟩, huni⟩ := hBi
  obtain ⟨d, hd⟩ := Option.isSome_iff_exists.1 hd
  have hdi : dstAt ops i = d := by simp [dstAt, ho, hd]
  have uni : ∀ a b, a < n → b < n → dstAt ops a = dstAt ops b → a = b := fun a b ha hb hab => by
    have hBb := List.all_eq_true.1 hB b (by simpa using hb)
    cases hob : ops[b]? with
    | none => simp [hob] at hBb
    | some ob =>
      simp only [hob, Bool.and_eq_true, List.all_eq_true, List.mem_range, Bool.or_eq_true, decide_eq_true_eq] at hBb
      rcases hBb.2 a ha with h | h
      · exact h
      · exact (h hab).elim
  refine qstepT_stepT (s := ⟨tAt ops val t (List.range i).reverse, h⟩) (s' := stAt ops val t h n D) hd rfl (fun x hx => by
    show getT (tAt ops val t (List.range i).reverse) x = getT (tAt ops val t ((List.range n).reverse.filter D)) x
    by_cases hex : ∃ j, j < n ∧ dstAt ops j = x
    · obtain ⟨j, hj, hjx⟩ := hex
      rcases hrd x hx j hj with h | ⟨hji, e, he, hb, hej⟩
      · exact (h hjx).elim
      · have hDj : D j = true := hej ▸ hall e he hb
        rw [getT_tAt (j := j) (by simp [hji]) hjx (fun k hk hkx => uni k j (by simp at hk; omega) hj (hkx.trans hjx.symm)), getT_tAt (j := j) (by simp [hj, hDj]) hjx (fun k hk hkx => uni k j (by simp at hk; omega) hj (hkx.trans hjx.symm))]
    · have hno : ∀ k, k < n → dstAt ops k ≠ x := fun k hk hkx => hex ⟨k, hk, hkx⟩
      rw [getT_tAt_no (fun k hk => hno k (by simp at hk; omega)), getT_tAt_no (fun k hk => hno k (by simp at hk; omega))]) hq ?_
  refine SLx.ext rfl (fun x => ?_) rfl
  simp only [stAt, getT]
  by_cases hx : x = d
  · subst hx
    rw [if_pos rfl]
    exact getT_tAt (j := i) (by simp [hin, doneAt]) hdi (fun k hk hkx => uni k i (by simp at hk; omega) hin (hkx.trans hdi.symm))
  · rw [if_neg hx]
    by_cases hex : ∃ j, j < n ∧ dstAt ops j = x ∧ D j = true
    · obtain ⟨j, hj, hjx, hDj⟩ := hex
      rw [getT_tAt (j := j) (by simp [hj, doneAt, hDj]) hjx (fun k hk hkx => uni k j (by simp at hk; omega) hj (hkx.trans hjx.symm)), getT_tAt (j := j) (by simp [hj, hDj]) hjx (fun k hk hkx => uni k j (by simp at hk; omega) hj (hkx.trans hjx.symm))]
    · rw [getT_tAt_no (fun k hk hkx => ?_), getT_tAt_no (fun k hk hkx => ?_)]
      · simp at hk; exact hex ⟨k, hk.1, hkx, hk.2⟩
      · simp only [List.mem_filter, List.mem_reverse, List.mem_range, doneAt] at hk
        by_cases hki : k = i
        · subst hki; exact hx (hkx.symm.trans hdi)
        · rw [if_neg hki] at hk; exact hex ⟨k, hk.1, hkx, hk.2⟩

/-- A DRAWN REGION OF OPERATIONS THAT CHANGE NOTHING. -/
theorem draw_quiet {s : TS} {K : TS → Prop} (hm : P.follows .mixedOrders = true) (hedge : edgesOk ops = true) (hB : quietB ops ops.size = true) (h : quietT P ops ops.toList s K) : drawT P ops s K := by
  have hds : ∀ (i : Nat) (o : Oper), ops[i]? = some o → o.dst.isSome = true := fun i o ho => by
    have := List.all_eq_true.1 hB i (by simpa using (Array.getElem?_eq_some_iff.1 ho).1)
    simp only [ho, Bool.and_eq_true] at this
    exact this.1.1
  obtain ⟨val, -, h2, h3⟩ := quiet_vals (t := s.t) (h := s.h) (K := K) ops.toList 0 (fun _ => .any) (fun i o hi => by
    rw [Nat.zero_add]
    have ho : ops[i]? = some o := by simpa using hi
    exact ⟨ho, hds i o ho⟩) (by simpa [tAt] using h)
  simp only [Nat.zero_add, Array.length_toList] at h2 h3
  refine draw_F hm hedge (fun D s' => s' = stAt ops val s.t s.h ops.size D) (SLx.ext rfl (fun n => by show getT (tAt ops val s.t ((List.range ops.size).reverse.filter fun _ => false)) n = _; rw [show (List.range ops.size).reverse.filter (fun _ => false) = [] by simp]; rfl) rfl) (fun D s' hs' i o ho hD hall => ?_) fun D s' hall hs' => ?_
  · subst hs'
    exact quiet_step hB (Array.getElem?_eq_some_iff.1 ho).1 ho hD hall (h3 i o (by simpa using ho))
  · subst hs'
    have : (List.range ops.size).reverse.filter D = (List.range ops.size).reverse := List.filter_eq_self.2 fun i hi => hall i (by simpa using hi)
    simp only [stAt, this]
    exact h2

theorem srcT_K {t k : Nat} {s : TS} {x : TV} {K K' : Nat → List TV → Prop} (hk : ∀ m l, K m l → K' m l) (h : srcT P t k s x K) : srcT P t k s x K' := by
  unfold srcT at h ⊢
  split at h
  · exact ⟨h.1, h.2.1, hk _ _ h.2.2⟩
  · exact ⟨h.1, hk _ _ h.2⟩
  · split at h
    · exact ⟨h.1, hk _ _ h.2⟩
    · exact h.elim
  · exact ⟨h.1, hk _ _ h.2⟩
  · exact h.elim
theorem effT_K {d : Nat} {op : Op} {s : TS} {K K' : TV → Heap → Prop} (hk : ∀ r h, K r h → K' r h) (h : effT P d op s K) : effT P d op s K' := by
  unfold effT at h ⊢
  split at h
  · unfold allocT at h ⊢
    split at h
    · exact fun v => hk _ _ (h v)
    · exact h.elim
  · unfold boxT at h ⊢
    split at h
    · exact fun v => hk _ _ (h v)
    · exact h.elim
  · unfold buildSliceT at h ⊢
    split at h
    · split at h
      · exact ⟨h.1, fun v => hk _ _ (h.2 v)⟩
      · exact h.elim
    · exact h.elim
  · unfold storeT at h ⊢
    split at h
    · split at h
      · exact ⟨h.1, h.2.1, h.2.2.1, h.2.2.2.1, h.2.2.2.2.1, hk _ _ h.2.2.2.2.2⟩
      · exact h.elim
    · exact h.elim
  · split at h
    · unfold appT at h ⊢
      split at h
      · refine srcT_K (fun m new h => ?_) h
        split at h
        · exact ⟨h.1, h.2.1, fun v => hk _ _ (h.2.2 v)⟩
        · split at h
          · exact ⟨h.1, h.2.1, h.2.2.1, fun v => hk _ _ (h.2.2.2 v)⟩
          · exact h.elim
        · exact h.elim
      · exact h.elim
    · exact h.elim
  · split at h
    · unfold clearT at h ⊢
      split at h
      · split at h
        · exact ⟨h.1, hk _ _ h.2⟩
        · exact h.elim
      · exact h.elim
    · exact h.elim
  · exact fun v => hk _ _ (h v)
  · unfold updT at h ⊢
    split at h
    · split at h
      · exact ⟨h.1, hk _ _ h.2⟩
      · exact h.elim
    · exact h.elim
  · split at h
    · unfold delT at h ⊢
      split at h
      · split at h
        · exact ⟨h.1, hk _ _ h.2⟩
        · exact h.elim
      · exact h.elim
    · exact h.elim
  · unfold mkT at h ⊢
    split at h
    · split at h
      · exact ⟨h.1, fun v => hk _ _ (h.2 v)⟩
      · exact h.elim
    · exact h.elim
  · unfold s2bT at h ⊢
    split at h
    · exact ⟨h.1, fun v => hk _ _ (h.2 v)⟩
    · exact h.elim
  · split at h
    · unfold copyT at h ⊢
      split at h
      · split at h
        · exact srcT_K (fun m new h => ⟨h.1, hk _ _ h.2⟩) h
        · exact h.elim
      · exact h.elim
    · exact h.elim
  · exact funT_mono hk h
  · exact invT_mono hk h
  · unfold nilT at h ⊢
    split at h
    · exact ⟨h.1, fun β hb => hk _ _ (h.2 β hb)⟩
    · exact h.elim
  · unfold nilT at h ⊢
    split at h
    · exact ⟨h.1, fun β hb => hk _ _ (h.2 β hb)⟩
    · exact h.elim
  · exact h.elim
theorem impL_K {A B : Prop} (hk : A → B) : ∀ gs : List Bool, impL gs A → impL gs B
  | [], h => hk h
  | g :: l, h => fun hg => impL_K hk l (h hg)
theorem stepT_K {o : Oper} {s : TS} {K K' : TS → Prop} (hk : ∀ s', K s' → K' s') (h : stepT P ops o s K) : stepT P ops o s K' := by
  unfold stepT at h ⊢
  split at h
  · split at h
    · exact ⟨h.1, hk _ h.2⟩
    · exact effT_K (fun r h => hk _) h
  · split at h
    · split at h
      · exact ⟨h.1, hk _ h.2⟩
      · exact guardE_fork (fun hg => by rw [hg, guardE_true] at h; exact effT_K (fun r h => hk _) h) fun hg => by rw [hg, guardE_false] at h; exact hk _ h
    · exact h.elim
/-- The last operation of a region waits for all others. -/
def lastB (ops : Array Oper) : Bool := match ops[ops.size - 1]? with
  | some o => (List.range (ops.size - 1)).all fun j => o.after.any fun e => Region.binds .any e && decide (e.on = j)
  | none => false
def lastT (P : Program) (ops : Array Oper) (K : TS → Prop) (s : TS) : Prop := match ops[ops.size - 1]? with
  | some o => stepT P ops o s K
  | none => False

/-- A DRAWN REGION OF OPERATIONS THAT CHANGE NOTHING, but for the last, which waits for all others. -/
theorem draw_last {s : TS} {K : TS → Prop} (hm : P.follows .mixedOrders = true) (hedge : edgesOk ops = true) (hB : quietB ops (ops.size - 1) = true) (hL : lastB ops = true) (h : quietT P ops (ops.toList.take (ops.size - 1)) s (lastT P ops K)) : drawT P ops s K := by
  have hpos : 0 < ops.size := by
    unfold lastB at hL
    split at hL
    · rename_i o ho; have := (Array.getElem?_eq_some_iff.1 ho).1; omega
    · cases hL
  have hds : ∀ (i : Nat) (o : Oper), i < ops.size - 1 → ops[i]? = some o → o.dst.isSome = true := fun i o hi ho => by
    have := List.all_eq_true.1 hB i (by simpa using hi)
    simp only [ho, Bool.and_eq_true] at this
    exact this.1.1
  obtain ⟨val, -, h2, h3⟩ := quiet_vals (t := s.t) (h := s.h) (K := lastT P ops K) (ops.toList.take (ops.size - 1)) 0 (fun _ => .any) (fun i o hi => by
    rw [Nat.zero_add]
    rw [List.getElem?_take] at hi
    split at hi
    · rename_i hlt
      have ho : ops[i]? = some o := by simpa using hi
      exact ⟨ho, hds i o hlt ho⟩
    · cases hi) (by simpa [tAt] using h)
  have hlen : (ops.toList.take (ops.size - 1)).length = ops.size - 1 := by simp
  rw [hlen, Nat.zero_add] at h2
  refine draw_F hm hedge (fun D s' => (D (ops.size - 1) = false ∧ s' = stAt ops val s.t s.h (ops.size - 1) D) ∨ ((∀ j, j < ops.size → D j = true) ∧ K s')) (SLx.ext (.inl ⟨rfl, rfl⟩) (fun n => by show getT (tAt ops val s.t ((List.range (ops.size - 1)).reverse.filter fun _ => false)) n = _; rw [show (List.range (ops.size - 1)).reverse.filter (fun _ => false) = [] by simp]; rfl) rfl) (fun D s' hs' i o ho hD hall => ?_) fun D s' hall hs' => ?_
  · have hi := (Array.getElem?_eq_some_iff.1 ho).1
    by_cases hil : i = ops.size - 1
    · rcases hs' with ⟨_, hs'⟩ | ⟨hd, _⟩
      · have hallD : ∀ j, j < ops.size - 1 → D j = true := fun j hj => by
          unfold lastB at hL
          rw [← hil, ho] at hL
          simp only [List.all_eq_true, List.mem_range, Bool.and_eq_true, decide_eq_true_eq, Array.any_eq_true'] at hL
          obtain ⟨e, he, hb, hej⟩ := hL j (by omega)
          exact hej ▸ hall e he hb
        have hfull : (List.range (ops.size - 1)).reverse.filter D = (List.range (ops.size - 1)).reverse := List.filter_eq_self.2 fun j hj => hallD j (by simpa using hj)
        subst hs'
        unfold lastT at h2
        rw [← hil, ho] at h2
        simp only [stAt, hfull]
        refine stepT_K (fun s' hs' => SLx.done (.inr ⟨fun j hj => by simp only [doneAt]; split; rfl; exact hallD j (by omega), hs'⟩)) ?_
        rw [hil] at h2
        exact h2
      · rw [hd i hi] at hD; cases hD
    · rcases hs' with ⟨hd, hs'⟩ | ⟨hd, _⟩
      · subst hs'
        refine stepT_K (fun s' hs' e E w tm a b => ?_) (quiet_step hB (by omega) ho hD hall (by have := h3 i o (by rw [List.getElem?_take, if_pos (by omega)]; simpa using ho); rwa [Nat.zero_add] at this))
        obtain ⟨s2, E', rfl, r2⟩ := hs' e E w tm a b
        exact ⟨_, E', .inl ⟨by simp only [doneAt]; rw [if_neg (Ne.symm hil)]; exact hd, rfl⟩, r2⟩
      · rw [hd i hi] at hD; cases hD
  · rcases hs' with ⟨hd, _⟩ | ⟨_, hk⟩
    · rw [hall _ (by omega)] at hd; cases hd
    · exact hk
end
end Go.Proofs.YtnkdkajllmopaaaGreat.TL

namespace Go.Proofs.YtnkdkajllmopaaaGreat.TL
open Go
set_option linter.unusedVariables false
set_option linter.unusedSimpArgs false

section
variable {P : Program} {ops : Array Oper}

def isEff : Op → Bool
  | .call { callee := .value _, .. } | .call { callee := .invoke _ _, .. } | .call { callee := .builtin .append, .. } | .call { callee := .builtin .clear, .. } | .store _ _ _ | .box _ _ | .alloc _ | .buildSlice _ 0 _ | .makeMap _ none | .mapUpdate _ _ _ _ | .call { callee := .builtin .delete, .. } | .makeSlice _ _ _ | .call { callee := .builtin .copy, .. } => true
  | _ => false
/-- A row that is built and never changes. -/
def frzSlice (P : Program) (t n : Nat) (parts : List (Nat × TV)) : Option PT :=
  match elemOf P t with
  | some k => match fillT (fun i => some (i * k, k)) (List.replicate (n * k) .any) parts with
    | some l => some (k ≠ 0 ∧ n * k ≤ 16777216, .isl l n)
    | none => none
  | none => none
def qopB (P : Program) (s : TS) (ev : Operand → TV) (op : Op) : Option PT :=
  match op with
  | .buildSlice t n ps => frzSlice P t n (ps.toList.map fun p => (p.1, ev p.2))
  | op => qop P s ev op
def freshB (op : Op) (h : Heap) (d : Nat) : Prop := match op with | .buildSlice _ _ _ => getH h d = none | _ => True
def guardsOf (ops : Array Oper) (t : List (Nat × TV)) (o : Oper) : Option (List Bool) :=
  match o.guard with
  | none => some []
  | some (j, want) => (((ops[j]?).bind (·.dst)).map (getT t)).bind (guardOf want)
def sameL (a b : List (Nat × TV)) : Prop := a = b
theorem sameL_go {a : List (Nat × TV)} {C : List (Nat × TV) → Prop} (h : C a) : ∀ t', sameL t' a → C t' := fun t' e => by unfold sameL at e; subst e; exact h

variable {X : Type} {g : X → Heap} {x0 : X}
def chStep (P : Program) (ops : Array Oper) {X : Type} (g : X → Heap) (x0 : X) (o : Oper) (J : X → Prop) (t : List (Nat × TV)) (K : List (Nat × TV) → (X → Prop) → Prop) : Prop :=
  match guardsOf ops t o with
  | none => False
  | some gs => match qopB P ⟨t, g x0⟩ (fun x => stripL gs ((⟨t, g x0⟩ : TS).ev x)) o.op with
    | some p => isEff o.op = false ∧ impL gs p.1 ∧ (∀ x, qopB P ⟨t, g x⟩ (fun x => stripL gs ((⟨t, g x0⟩ : TS).ev x)) o.op = some p) ∧ (∀ x, freshB o.op (g x) (o.dst.getD 0)) ∧ K ((o.dst.getD 0, optL gs p.2) :: t) J
    | none => isEff o.op = true ∧ ∃ R, ∃ J' : X → Prop, impL gs (∀ x, J x → effT P (o.dst.getD 0) o.op (stripS gs ⟨t, g x⟩) fun r h => r = R ∧ ∃ y, h = g y ∧ J' y) ∧ (allB gs = false → ∀ x, J x → J' x) ∧
        ∀ t', sameL t' ((o.dst.getD 0, optL gs R) :: t) → K t' J'
def chT (P : Program) (ops : Array Oper) {X : Type} (g : X → Heap) (x0 : X) : List Oper → (X → Prop) → List (Nat × TV) → (List (Nat × TV) → (X → Prop) → Prop) → Prop
  | [], J, t, K => K t J
  | o :: l, J, t, K => chStep P ops g x0 o J t fun t' J' => chT P ops g x0 l J' t' K

def effAt (ops : Array Oper) (i : Nat) : Bool := match ops[i]? with | some o => isEff o.op | none => false
/-- The last operation that changes memory of those that an operation waits for (one more than its number; 0: none). -/
def leTab (ops : Array Oper) : List Nat := ops.toList.foldl (fun acc o => acc ++ [o.after.toList.foldl (fun s e => if Region.binds .any e then max s (if effAt ops e.on then e.on + 1 else acc.getD e.on 0) else s) 0]) []
def leAt (c : List Nat) (i : Nat) : Nat := c.getD i 0
/-- Operations that change memory wait for each other. -/
def chainC (ops : Array Oper) (n : Nat) (c : List Nat) : Bool :=
  (List.range n).all fun i => match ops[i]? with
    | some o => (decide (leAt c i = 0) || (effAt ops (leAt c i - 1) && decide (leAt c i - 1 < n) && o.after.any fun e => Region.binds .any e && (decide (leAt c i = e.on + 1) || decide (leAt c i = leAt c e.on)))) &&
        (!isEff o.op || (List.range i).all fun j => !effAt ops j || decide (j < leAt c i))
    | none => true
def chainB (ops : Array Oper) (n : Nat) : Bool := chainC ops n (leTab ops)

theorem chStep_get {o : Oper} {J : X → Prop} {t : List (Nat × TV)} {K : List (Nat × TV) → (X → Prop) → Prop} (h : chStep P ops g x0 o J t K) :
    ∃ (v : TV) (J' : X → Prop), K ((o.dst.getD 0, v) :: t) J' ∧ chStep P ops g x0 o J t fun t2 J2 => t2 = (o.dst.getD 0, v) :: t ∧ J2 = J' := by
  unfold chStep at h
  split at h
  · exact h.elim
  · rename_i gs hgs
    split at h
    · rename_i p hq
      obtain ⟨h1, h2, h3, h4, h5⟩ := h
      refine ⟨_, J, h5, ?_⟩
      unfold chStep
      simp only [hgs, hq]
      exact ⟨h1, h2, h3, h4, by trivial⟩
    · rename_i hq
      obtain ⟨h1, R, J', h2, h3, h4⟩ := h
      refine ⟨optL gs R, J', h4 _ rfl, ?_⟩
      unfold chStep
      simp only [hgs, hq]
      exact ⟨h1, R, J', h2, h3, fun t' e => ⟨e, rfl⟩⟩

theorem chain_vals {t : List (Nat × TV)} {K : List (Nat × TV) → (X → Prop) → Prop} : ∀ (l : List Oper) (k : Nat) (val : Nat → TV) (Jat : Nat → X → Prop), (∀ i o, l[i]? = some o → ops[k + i]? = some o ∧ o.dst.isSome = true) →
    chT P ops g x0 l (Jat k) (tAt ops val t (List.range k).reverse) K →
    ∃ (val' : Nat → TV) (Jat' : Nat → X → Prop), (∀ j, j < k → val' j = val j) ∧ (∀ j, j ≤ k → Jat' j = Jat j) ∧ K (tAt ops val' t (List.range (k + l.length)).reverse) (Jat' (k + l.length)) ∧
      ∀ i o, l[i]? = some o → chStep P ops g x0 o (Jat' (k + i)) (tAt ops val' t (List.range (k + i)).reverse) fun t2 J2 => t2 = (o.dst.getD 0, val' (k + i)) :: tAt ops val' t (List.range (k + i)).reverse ∧ J2 = Jat' (k + i + 1)
  | [], k, val, Jat, hl, hq => ⟨val, Jat, fun _ _ => rfl, fun _ _ => rfl, hq, fun i o hi => by simp at hi⟩
  | o :: l, k, val, Jat, hl, hq => by
    simp only [chT] at hq
    obtain ⟨v, J', hq1, hq2⟩ := chStep_get hq
    obtain ⟨ho, hod⟩ := hl 0 o rfl
    rw [Nat.add_zero] at ho
    have hdst : o.dst.getD 0 = dstAt ops k := by simp [dstAt, ho]
    let val1 : Nat → TV := fun j => if j = k then v else val j
    let Jat1 : Nat → X → Prop := fun j => if j = k + 1 then J' else Jat j
    have e1 : tAt ops val1 t (List.range (k + 1)).reverse = (o.dst.getD 0, v) :: tAt ops val t (List.range k).reverse := by
      rw [List.range_succ, List.reverse_append, List.reverse_singleton, List.singleton_append]
      simp only [tAt, List.map_cons, List.cons_append, hdst, val1, if_true]
      congr 2
      exact List.map_congr_left fun j hj => by rw [if_neg (by simp at hj; omega)]
    have e2 : Jat1 (k + 1) = J' := by simp only [Jat1, if_true]
    obtain ⟨val', Jat', h1, h1J, h2, h3⟩ := chain_vals l (k + 1) val1 Jat1 (fun i o hi => by have := hl (i + 1) o (by simpa using hi); rwa [show k + (i + 1) = k + 1 + i by omega] at this) (by rw [e1, e2]; exact hq1)
    refine ⟨val', Jat', fun j hj => by rw [h1 j (by omega)]; simp only [val1]; rw [if_neg (by omega)], fun j hj => by rw [h1J j (by omega)]; simp only [Jat1]; rw [if_neg (by omega)], ?_, fun i o' hi => ?_⟩
    · rw [List.length_cons, show k + (l.length + 1) = k + 1 + l.length by omega]; exact h2
    · cases i with
      | zero =>
        simp at hi
        subst hi
        rw [Nat.add_zero]
        have hv : val' k = v := by rw [h1 k (by omega)]; simp only [val1, if_true]
        have hJ1 : Jat' (k + 1) = J' := by rw [h1J _ (by omega), e2]
        have hJ0 : Jat' k = Jat k := by rw [h1J _ (by omega)]; simp only [Jat1]; rw [if_neg (by omega)]
        rw [hv, hJ1, hJ0, tAt_val (val := val') (val' := val) fun j hj => by rw [h1 j (by simp at hj; omega)]; simp only [val1]; rw [if_neg (by simp at hj; omega)]]
        exact hq2
      | succ i =>
        have := h3 i o' (by simpa using hi)
        rwa [show k + 1 + i = k + (i + 1) by omega] at this

theorem SatH.heap {e : Ent} {E : Env} {h h' : Heap} {w : World} (H : SatH e E h w) (hh : ∀ n, getH h' n = getH h n) : SatH e E h' w :=
  ⟨H.imm, fun b ver B hb => H.live b ver B (by rw [← hh]; exact hb), fun b hb => H.dead b (by rw [← hh]; exact hb), H.vers, H.ownd, H.apart, H.gr⟩

theorem qopB_congr {s s' : TS} {ev ev' : Operand → TV} {op : Op} (hh : s.h = s'.h) (h : ∀ x ∈ opnds op, ev x = ev' x) : qopB P s ev op = qopB P s' ev' op := by
  unfold qopB
  split
  · rename_i t n ps
    simp only [opnds] at h
    rw [show (ps.toList.map fun p => (p.1, ev p.2)) = ps.toList.map fun p => (p.1, ev' p.2) from List.map_congr_left fun p hm => by rw [h p.2 (List.mem_map.2 ⟨p, hm, rfl⟩)]]
  · exact qop_congr hh h

theorem effT_congr {d : Nat} {s s' : TS} {op : Op} {K : TV → Heap → Prop} (hh : s.h = s'.h) (he : isEff op = true) (hx : ∀ x ∈ opnds op, s.ev x = s'.ev x) (h : effT P d op s K) : effT P d op s' K := by
  unfold effT at h ⊢
  split at h
  · unfold allocT at h ⊢; rw [← hh]; exact h
  · rw [← hx _ (by simp [opnds])]; unfold boxT at h ⊢; rw [← hh]; exact h
  · rename_i t n ps
    have : (ps.toList.map fun p => (p.1, s.ev p.2)) = ps.toList.map fun p => (p.1, s'.ev p.2) := List.map_congr_left fun p hp => by rw [hx _ (by simp only [opnds]; exact List.mem_map.2 ⟨p, hp, rfl⟩)]
    rw [← this]
    unfold buildSliceT at h ⊢
    rw [← hh]
    exact h
  · rw [← hx _ (by simp [opnds]), ← hx _ (by simp [opnds])]
    unfold storeT at h ⊢
    simp only [← hh]
    exact h
  · split at h
    · rename_i args ts x y ta tx h1 h2
      simp only [opnds, h1] at hx
      rw [← hx x (by simp), ← hx y (by simp)]
      unfold appT srcT at h ⊢
      simp only [← hh]
      exact h
    · exact h.elim
  · split at h
    · rename_i args ts x t h1 h2
      simp only [opnds, h1] at hx
      rw [← hx x (by simp)]
      unfold clearT at h ⊢
      simp only [← hh]
      exact h
    · exact h.elim
  · unfold mapT at h ⊢; rw [← hh]; exact h
  · rw [← hx _ (by simp [opnds]), ← hx _ (by simp [opnds]), ← hx _ (by simp [opnds])]
    unfold updT at h ⊢
    simp only [← hh]
    exact h
  · split at h
    · rename_i args ts x y t t' h1 h2
      simp only [opnds, h1] at hx
      rw [← hx x (by simp), ← hx y (by simp)]
      unfold delT at h ⊢
      simp only [← hh]
      exact h
    · exact h.elim
  · rw [← hx _ (by simp [opnds]), ← hx _ (by simp [opnds])]
    unfold mkT at h ⊢
    simp only [← hh]
    exact h
  · simp [isEff] at he
  · split at h
    · rename_i args ts x y t t' h1 h2
      simp only [opnds, h1] at hx
      rw [← hx x (by simp), ← hx y (by simp)]
      unfold copyT srcT at h ⊢
      simp only [← hh]
      exact h
    · exact h.elim
  · rename_i f args ts
    simp only [opnds, List.mem_cons, forall_eq_or_imp] at hx
    rw [← hx.1, ← List.map_congr_left hx.2]
    exact funT_h hh h
  · rename_i x n args ts
    simp only [opnds, List.mem_cons, forall_eq_or_imp] at hx
    rw [← hx.1, ← List.map_congr_left hx.2]
    exact invT_h hh h
  · simp [isEff] at he
  · simp [isEff] at he
  · exact h.elim

theorem getH_del_set {h : Heap} {d : Nat} {y : Nat × Blk} (hd : getH h d = none) (n : Nat) : getH (delH (setH h d y) d) n = getH h n := by
  rw [getH_delH, getH_setH]
  split
  · rename_i hn; rw [hn, hd]
  · rfl

theorem SLx.ext2 {s s' : TS} {F : TS → Prop} (h : SLx s' F) (ht : ∀ n, getT s'.t n = getT s.t n) (hh : ∀ n, getH s'.h n = getH s.h n) : SLx s F := fun e E w tm a b => h e E w tm (a.heap hh) fun n => by rw [ht]; exact b n

/-- A row that was built, never changed. -/
theorem built_SLx {t : List (Nat × TV)} {h : Heap} {d ver k n : Nat} {l : List TV} {F : TS → Prop} (hd : getH h d = none) (hl : l.length = n * k) (h1 : SLx ⟨(d, .isl l n) :: t, h⟩ F) : SLx ⟨(d, .sl d ver 0 n) :: t, setH h d (ver, ⟨k, l⟩)⟩ F := fun e E w tm H hT => by
  have hb : getH (setH h d (ver, ⟨k, l⟩)) d = some (ver, ⟨k, l⟩) := by rw [getH_setH, if_pos rfl]
  obtain ⟨s2, E2, k1, k2, k3⟩ := h1 e _ w tm ((H.frz d).heap fun x => (getH_del_set hd x).symm) fun x => by
    have hx := hT x
    simp only [getT] at hx ⊢
    split
    · rename_i hxd
      rw [if_pos hxd] at hx
      have := RV_frz H hb _ _ hx
      simp only [frzT, and_self, if_true, List.drop_zero] at this
      rw [List.take_of_length_le (by omega)] at this
      have e0 : (if k = 0 then if n = 0 then [] else l else l) = l := by
        by_cases hk : k = 0
        · subst hk
          have : l = [] := List.eq_nil_of_length_eq_zero (by simpa using hl)
          simp [this]
        · rw [if_neg hk]
      rw [e0] at this
      exact this
    · rename_i hxd
      rw [if_neg hxd] at hx
      exact RV.mono (H.le_frz d) _ _ hx
  exact ⟨s2, E2, k1, (H.le_frz d).trans k2, k3⟩

theorem fillT_len {place : Nat → Option (Nat × Nat)} {parts : List (Nat × TV)} {cells l : List TV} (h : fillT place cells parts = some l) : l.length = cells.length := fillT_length parts cells l h

theorem qop_eff {s : TS} {ev : Operand → TV} {op : Op} (h : isEff op = true) : qop P s ev op = none := by
  unfold isEff at h
  split at h
  · rfl
  · rfl
  · unfold qop; rfl
  · unfold qop; rfl
  · rfl
  · rfl
  · rfl
  · rfl
  · rfl
  · rfl
  · unfold qop; rfl
  · rfl
  · unfold qop; rfl
  · cases h
theorem stripS_nil (s : TS) : stripS [] s = s := by
  cases s; simp [stripS, stripL]
theorem stepT_intro {o : Oper} {s : TS} {K : TS → Prop} {gs : List Bool} (hg : guardsOf ops s.t o = some gs)
    (h : (∃ p, qop P s (fun x => stripL gs (s.ev x)) o.op = some p ∧ impL gs p.1 ∧ K (s.to o.dst (optL gs p.2) s.h)) ∨
      (qop P s (fun x => stripL gs (s.ev x)) o.op = none ∧ guardE (allB gs) (effT P (o.dst.getD 0) o.op (stripS gs s) fun r h => K (s.to o.dst r h)) (K (s.to o.dst (optL gs .any) s.h)))) : stepT P ops o s K := by
  unfold guardsOf at hg
  unfold stepT
  split at hg
  · rename_i hgn
    rw [hgn]
    cases hg
    simp only
    rcases h with ⟨p, h1, h2, h3⟩ | ⟨h1, h2⟩
    · rw [show qop P s s.ev o.op = some p from h1]
      exact ⟨h2, h3⟩
    · rw [show qop P s s.ev o.op = none from h1]
      simp only [stripS_nil, allB, guardE_true] at h2
      exact h2
  · rename_i j want hgn
    rw [hgn]
    simp only [hg]
    rcases h with ⟨p, h1, h2, h3⟩ | ⟨h1, h2⟩
    · rw [h1]
      exact ⟨h2, h3⟩
    · rw [h1]
      exact h2

theorem guardsOf_congr {t t' : List (Nat × TV)} {o : Oper} (hr : ∀ n ∈ reads ops o, getT t n = getT t' n) : guardsOf ops t o = guardsOf ops t' o := by
  unfold guardsOf
  split
  · rfl
  · rename_i j want hg
    have : ((ops[j]?).bind (·.dst)).map (getT t) = ((ops[j]?).bind (·.dst)).map (getT t') := by
      cases hj : (ops[j]?).bind (·.dst) with
      | none => rfl
      | some n =>
        simp only [Option.map_some]
        rw [hr n (List.mem_append_right _ (by simp [hg, hj]))]
    rw [this]

theorem optL_any {E : Env} {y : Value} : ∀ gs : List Bool, allB gs = false → RV E (optL gs .any) y → y = undef
  | [], hf, _ => by cases hf
  | g :: l, hf, hy => by
    simp only [optL, RV] at hy
    cases g with
    | false => exact hy.2 rfl
    | true => exact optL_any l (by simpa [allB] using hf) (hy.1 rfl)

/-- One slot known otherwise. -/
theorem SLx.slot {s : TS} {d : Nat} {R R' : TV} {h : Heap} {F : TS → Prop} (hR : ∀ (E : Env) (y : Value), RV E R' y → RV E R y) (hF : SLx ⟨(d, R) :: s.t, h⟩ F) : SLx ⟨(d, R') :: s.t, h⟩ F := fun e E w tm a b => hF e E w tm a fun n => by
  have := b n
  simp only [getT] at this ⊢
  split
  · rename_i hn; rw [if_pos hn] at this; exact hR _ _ this
  · rename_i hn; rw [if_neg hn] at this; exact this

theorem chStep_stepT {o : Oper} {d : Nat} {t t' : List (Nat × TV)} {J J' : X → Prop} {v : TV} {x : X} {F : TS → Prop} (hd : o.dst = some d) (hr : ∀ n ∈ reads ops o, getT t n = getT t' n)
    (h : chStep P ops g x0 o J t fun t2 J2 => t2 = (o.dst.getD 0, v) :: t ∧ J2 = J') (hJ : isEff o.op = true → J x) (hF : ∀ y, (isEff o.op = true → J' y) → (isEff o.op = false → y = x) → SLx ⟨(d, v) :: t', g y⟩ F) :
    (isEff o.op = false → J' = J) ∧ stepT P ops o ⟨t', g x⟩ fun s1 => SLx s1 F := by
  have hev : ∀ (y y' : X) (z : Operand), z ∈ opnds o.op → (⟨t, g y⟩ : TS).ev z = (⟨t', g y'⟩ : TS).ev z := fun y y' z hz => by
    cases z with
    | tmp n => exact hr n (List.mem_append_left _ (List.mem_filterMap.2 ⟨.tmp n, hz, rfl⟩))
    | const v => rfl
    | global g => rfl
    | func f => rfl
  have hto : ∀ r h, (⟨t', g x⟩ : TS).to o.dst r h = ⟨(d, r) :: t', h⟩ := fun r h => by simp [TS.to, hd]
  have hdd : o.dst.getD 0 = d := by simp [hd]
  unfold chStep at h
  split at h
  · exact h.elim
  · rename_i gs hgs
    rw [guardsOf_congr hr] at hgs
    split at h
    · rename_i p hq
      obtain ⟨h1, h2, h3, h4, h5, h6⟩ := h
      refine ⟨fun _ => h6.symm, ?_⟩
      have hv : v = optL gs p.2 := by
        rw [List.cons.injEq, Prod.mk.injEq] at h5; exact h5.1.2.symm
      have hq2 : qopB P ⟨t', g x⟩ (fun z => stripL gs ((⟨t', g x⟩ : TS).ev z)) o.op = some p := by
        rw [← h3 x]
        exact qopB_congr (s := ⟨t', g x⟩) (s' := ⟨t, g x⟩) (ev := fun z => stripL gs ((⟨t', g x⟩ : TS).ev z)) rfl fun z hz => by rw [← hev x0 x z hz]
      have hFx : SLx ⟨(d, v) :: t', g x⟩ F := hF x (fun hh => by rw [h1] at hh; cases hh) fun _ => rfl
      by_cases hb : ∃ t n ps, o.op = .buildSlice t n ps
      · obtain ⟨tt, n, ps, hop⟩ := hb
        simp only [hop, qopB, frzSlice] at hq2
        split at hq2
        · rename_i k hk
          split at hq2
          · rename_i l hl
            cases hq2
            refine stepT_intro hgs (.inr ⟨by rw [hop]; rfl, guardE_fork (fun hg => ?_) fun hg => ?_⟩)
            · have hc := impL_of h2 hg
              have hfr : getH (g x) d = none := by have := h4 x; rw [hop, hdd] at this; exact this
              rw [hop]
              simp only [effT, buildSliceT, hk]
              have e1 : ps.toList.map (fun q => (q.1, (stripS gs ⟨t', g x⟩).ev q.2)) = ps.toList.map fun q => (q.1, stripL gs ((⟨t', g x⟩ : TS).ev q.2)) := List.map_congr_left fun q _ => by rw [stripS_ev]
              rw [e1, hl]
              refine ⟨hc.2, fun ver => ?_⟩
              rw [hto, hdd]
              refine built_SLx hfr (by rw [fillT_len hl]; simp) (SLx.slot (s := ⟨t', g x⟩) (fun E y hy => ?_) hFx)
              rw [hv]
              exact RV_optL (fun _ => hy) fun hf => by rw [hg] at hf; cases hf
            · rw [hto]
              refine SLx.slot (s := ⟨t', g x⟩) (fun E y hy => ?_) hFx
              rw [hv]
              exact RV_optL (fun hf => by rw [hg] at hf; cases hf) fun _ => optL_any gs hg hy
          · cases hq2
        · cases hq2
      · refine stepT_intro hgs (.inl ⟨p, ?_, h2, ?_⟩)
        · unfold qopB at hq2
          split at hq2
          · rename_i tt n ps hop; exact (hb ⟨tt, n, ps, hop⟩).elim
          · exact hq2
        · rw [hto, ← hv]; exact hFx
    · rename_i hq
      obtain ⟨h1, R, J2, h2, h3, h4⟩ := h
      refine ⟨fun hh => (by rw [h1] at hh; cases hh), ?_⟩
      obtain ⟨h5, h6⟩ := h4 _ rfl
      have hv : v = optL gs R := by
        rw [List.cons.injEq, Prod.mk.injEq] at h5; exact h5.1.2.symm
      subst h6
      have hqn : qop P ⟨t', g x⟩ (fun z => stripL gs ((⟨t', g x⟩ : TS).ev z)) o.op = none := by
        exact qop_eff h1
      refine stepT_intro hgs (.inr ⟨hqn, guardE_fork (fun hg => ?_) fun hg => ?_⟩)
      · refine effT_K (K := fun r h => r = R ∧ ∃ y, h = g y ∧ J2 y) (fun r h ⟨e1, y, e2, e3⟩ => ?_) (effT_congr (s := stripS gs ⟨t, g x⟩) rfl h1 (fun z hz => by rw [stripS_ev, stripS_ev, hev x x z hz]) (impL_of h2 hg x (hJ h1)))
        subst e1 e2
        rw [hto]
        refine SLx.slot (s := ⟨t', g x⟩) (fun E z hz => ?_) (hF y (fun _ => e3) fun hh => by simp [h1] at hh)
        rw [hv]
        exact RV_optL (fun _ => hz) fun hf => by rw [hg] at hf; cases hf
      · rw [hto]
        refine SLx.slot (s := ⟨t', g x⟩) (fun E y hy => ?_) (hF x (fun _ => h3 hg x (hJ h1)) fun hh => by simp [h1] at hh)
        rw [hv]
        exact RV_optL (fun hf => by rw [hg] at hf; cases hf) fun _ => optL_any gs hg hy

theorem dst_uni {n : Nat} (hB : quietB ops n = true) : ∀ a b, a < n → b < n → dstAt ops a = dstAt ops b → a = b := fun a b ha hb hab => by
  have hBb := List.all_eq_true.1 hB b (by simpa using hb)
  cases hob : ops[b]? with
  | none => simp [hob] at hBb
  | some ob =>
    simp only [hob, Bool.and_eq_true, List.all_eq_true, List.mem_range, Bool.or_eq_true, decide_eq_true_eq] at hBb
    rcases hBb.2 a ha with h | h
    · exact h
    · exact (h hab).elim
theorem reads_agree {t : List (Nat × TV)} {val : Nat → TV} {n : Nat} (hB : quietB ops n = true) {D : Nat → Bool} {i : Nat} {o : Oper} (hin : i < n) (ho : ops[i]? = some o) (hall : ∀ e ∈ o.after, Region.binds .any e = true → D e.on = true) :
    ∀ x ∈ reads ops o, getT (tAt ops val t (List.range i).reverse) x = getT (tAt ops val t ((List.range n).reverse.filter D)) x := fun x hx => by
  have hBi := List.all_eq_true.1 hB i (by simpa using hin)
  simp only [ho, Bool.and_eq_true, List.all_eq_true, List.mem_range, Bool.or_eq_true, decide_eq_true_eq, Array.any_eq_true'] at hBi
  obtain ⟨⟨hd, hrd⟩, huni⟩ := hBi
  have uni := dst_uni hB
  by_cases hex : ∃ j, j < n ∧ dstAt ops j = x
  · obtain ⟨j, hj, hjx⟩ := hex
    rcases hrd x hx j hj with h | ⟨hji, e, he, hb, hej⟩
    · exact (h hjx).elim
    · have hDj : D j = true := hej ▸ hall e he hb
      rw [getT_tAt (j := j) (by simp [hji]) hjx (fun k hk hkx => uni k j (by simp at hk; omega) hj (hkx.trans hjx.symm)), getT_tAt (j := j) (by simp [hj, hDj]) hjx (fun k hk hkx => uni k j (by simp at hk; omega) hj (hkx.trans hjx.symm))]
  · have hno : ∀ k, k < n → dstAt ops k ≠ x := fun k hk hkx => hex ⟨k, hk, hkx⟩
    rw [getT_tAt_no (fun k hk => hno k (by simp at hk; omega)), getT_tAt_no (fun k hk => hno k (by simp at hk; omega))]
theorem put_agree {t : List (Nat × TV)} {val : Nat → TV} {n : Nat} (hB : quietB ops n = true) {D : Nat → Bool} {i d : Nat} (hin : i < n) (hdi : dstAt ops i = d) (x : Nat) :
    getT (tAt ops val t ((List.range n).reverse.filter (doneAt D i))) x = getT ((d, val i) :: tAt ops val t ((List.range n).reverse.filter D)) x := by
  have uni := dst_uni hB
  simp only [getT]
  by_cases hx : x = d
  · subst hx
    rw [if_pos rfl]
    exact getT_tAt (j := i) (by simp [hin, doneAt]) hdi (fun k hk hkx => uni k i (by simp at hk; omega) hin (hkx.trans hdi.symm))
  · rw [if_neg hx]
    by_cases hex : ∃ j, j < n ∧ dstAt ops j = x ∧ D j = true
    · obtain ⟨j, hj, hjx, hDj⟩ := hex
      rw [getT_tAt (j := j) (by simp [hj, doneAt, hDj]) hjx (fun k hk hkx => uni k j (by simp at hk; omega) hj (hkx.trans hjx.symm)), getT_tAt (j := j) (by simp [hj, hDj]) hjx (fun k hk hkx => uni k j (by simp at hk; omega) hj (hkx.trans hjx.symm))]
    · rw [getT_tAt_no (fun k hk hkx => ?_), getT_tAt_no (fun k hk hkx => ?_)]
      · simp at hk; exact hex ⟨k, hk.1, hkx, hk.2⟩
      · simp only [List.mem_filter, List.mem_reverse, List.mem_range, doneAt] at hk
        by_cases hki : k = i
        · subst hki; exact hx (hkx.symm.trans hdi)
        · rw [if_neg hki] at hk; exact hex ⟨k, hk.1, hkx, hk.2⟩

theorem chT_parts {t : List (Nat × TV)} {n : Nat} (hB : quietB ops n = true) (hC : chainB ops n = true) {J0 : X → Prop} {K : List (Nat × TV) → (X → Prop) → Prop} (hn : n ≤ ops.size) (hc : chT P ops g x0 (ops.toList.take n) J0 t K) :
    ∃ F : (Nat → Bool) → TS → Prop, (∀ x, J0 x → SLx ⟨t, g x⟩ (F fun _ => false)) ∧
      (∀ D s', F D s' → ∀ i o, ops[i]? = some o → i < n → D i = false → (∀ e ∈ o.after, Region.binds .any e = true → D e.on = true) → stepT P ops o s' fun s'' => SLx s'' (F (doneAt D i))) ∧
      ∃ t' J', K t' J' ∧ ∀ D s', (∀ i, i < n → D i = true) → F D s' → ∃ x, J' x ∧ s' = ⟨t', g x⟩ := by
  have hds : ∀ (i : Nat) (o : Oper), i < n → ops[i]? = some o → o.dst.isSome = true := fun i o hi ho => by
    have := List.all_eq_true.1 hB i (by simpa using hi)
    simp only [ho, Bool.and_eq_true] at this
    exact this.1.1
  obtain ⟨val, Jat, -, hJ0, h2, h3⟩ := chain_vals (P := P) (ops := ops) (g := g) (x0 := x0) (t := t) (K := K) (ops.toList.take n) 0 (fun _ => .any) (fun _ => J0) (fun i o hi => by
    rw [Nat.zero_add]
    rw [List.getElem?_take] at hi
    split at hi
    · rename_i hlt
      have ho : ops[i]? = some o := by simpa using hi
      exact ⟨ho, hds i o hlt ho⟩
    · cases hi) (by simpa [tAt] using hc)
  have hlen : (ops.toList.take n).length = n := by simp [hn]
  rw [hlen, Nat.zero_add] at h2
  have h3' : ∀ i o, i < n → ops[i]? = some o → chStep P ops g x0 o (Jat i) (tAt ops val t (List.range i).reverse) fun t2 J2 => t2 = (o.dst.getD 0, val i) :: tAt ops val t (List.range i).reverse ∧ J2 = Jat (i + 1) := fun i o hi ho => by
    have := h3 i o (by rw [List.getElem?_take, if_pos hi]; simpa using ho)
    rwa [Nat.zero_add] at this
  let eff : Nat → Prop := fun i => ∃ o, ops[i]? = some o ∧ isEff o.op = true
  have hquiet : ∀ i o, i < n → ops[i]? = some o → isEff o.op = false → Jat (i + 1) = Jat i := fun i o hi ho he => by
    have hst := h3' i o hi ho
    unfold chStep at hst
    split at hst
    · exact hst.elim
    · split at hst
      · exact hst.2.2.2.2.2.symm
      · rw [he] at hst; cases hst.1
  have hsame : ∀ d i, i + d ≤ n → (∀ j, i ≤ j → j < i + d → ¬ eff j) → Jat (i + d) = Jat i := fun d => by
    induction d with
    | zero => intro i _ _; rfl
    | succ d ih =>
      intro i hi hno
      have hlt : i + d < ops.size := by omega
      rw [show i + (d + 1) = (i + d) + 1 by omega, hquiet (i + d) ops[i + d] (by omega) (Array.getElem?_eq_getElem hlt) ?_, ih i (by omega) fun j h1 h2 => hno j h1 (by omega)]
      cases he : isEff ops[i + d].op with
      | false => rfl
      | true => exact (hno (i + d) (by omega) (by omega) ⟨_, Array.getElem?_eq_getElem hlt, he⟩).elim
  obtain ⟨c, hcc⟩ : ∃ c, c = leTab ops := ⟨_, rfl⟩
  unfold chainB at hC
  rw [← hcc] at hC
  refine ⟨fun D s' => (∀ j p, D j = true → leAt c j = p + 1 → D p = true) ∧ ∃ k x, k ≤ n ∧ (∀ j, j < k → eff j → D j = true) ∧ (∀ j, k ≤ j → j < n → eff j → D j = false) ∧ Jat k x ∧ s' = stAt ops val t (g x) n D, fun x hx => SLx.ext ⟨fun j p hj => (by cases hj), 0, x, Nat.zero_le _, fun j hj => by omega, fun j _ _ _ => rfl, by rw [hJ0 0 (Nat.le_refl _)]; exact hx, rfl⟩ (fun m => by
    show getT (tAt ops val t ((List.range n).reverse.filter fun _ => false)) m = _
    rw [show (List.range n).reverse.filter (fun _ => false) = [] by simp]; rfl) rfl, ?_, _, _, h2, ?_⟩
  · rintro D s' ⟨hinv, k, x, hk, hk1, hk2, hJk, rfl⟩ i o ho hin hD hall
    obtain ⟨d, hd⟩ := Option.isSome_iff_exists.1 (hds i o hin ho)
    have hdi : dstAt ops i = d := by simp [dstAt, ho, hd]
    have effAt_of : ∀ {j}, eff j → effAt ops j = true := fun {j} ⟨oj, h1, h2⟩ => by simp only [effAt, h1]; exact h2
    have of_effAt : ∀ {j}, effAt ops j = true → eff j := fun {j} h => by
      unfold effAt at h
      split at h
      · rename_i oj hoj; exact ⟨oj, hoj, h⟩
      · cases h
    have hCi0 := List.all_eq_true.1 hC i (by simpa using hin)
    simp only [ho, Bool.and_eq_true, Bool.or_eq_true, decide_eq_true_eq] at hCi0
    have hCn : ∀ p, leAt c i = p + 1 → effAt ops p = true ∧ p < n := fun p hp => by
      rcases hCi0.1 with h | h
      · omega
      · rw [hp, Nat.add_sub_cancel] at h; exact ⟨h.1.1, h.1.2⟩
    have hCi : ∀ p, leAt c i = p + 1 → D p = true := fun p hp => by
      rcases hCi0.1 with h | h
      · omega
      · obtain ⟨e, he1, he2⟩ := Array.any_eq_true'.1 h.2
        simp only [Bool.and_eq_true, Bool.or_eq_true, decide_eq_true_eq] at he2
        have hDe := hall e he1 he2.1
        rcases he2.2 with h3 | h3
        · have : e.on = p := by omega
          rw [← this]; exact hDe
        · exact hinv e.on p hDe (by omega)
    have hCe : isEff o.op = true → ∀ j, j < i → effAt ops j = true → j < leAt c i := fun he j hji hej => by
      rcases hCi0.2 with h | h
      · rw [he] at h; cases h
      · have := List.all_eq_true.1 h j (by simpa using hji)
        simp only [hej, Bool.not_true, Bool.false_or, decide_eq_true_eq] at this
        exact this
    have hinv2 : ∀ j p, doneAt D i j = true → leAt c j = p + 1 → doneAt D i p = true := fun j p hj hp => by
      simp only [doneAt] at hj ⊢
      split
      · rfl
      · split at hj
        · rename_i hji; rw [hji] at hp; exact hCi p hp
        · exact hinv j p hj hp
    have hno : isEff o.op = true → k ≤ i ∧ ∀ j, k ≤ j → j < i → ¬ eff j := fun he => by
      refine ⟨?_, fun j hkj hji hej => ?_⟩
      · by_cases hki : k ≤ i
        · exact hki
        · have := hk1 i (by omega) ⟨o, ho, he⟩
          rw [hD] at this; cases this
      · have hlt := hCe he j hji (effAt_of hej)
        obtain ⟨p, hp⟩ : ∃ p, leAt c i = p + 1 := ⟨leAt c i - 1, by omega⟩
        have hDp := hCi p hp
        have := hk2 p (by omega) (hCn p hp).2 (of_effAt (hCn p hp).1)
        rw [hDp] at this
        cases this
    refine (chStep_stepT (x := x) (J' := Jat (i + 1)) (v := val i) hd (reads_agree hB hin ho hall) (h3' i o hin ho) (fun he => ?_) fun y hy1 hy2 => ?_).2
    · have := hsame (i - k) k (by omega) fun j h1 h2 => (hno he).2 j h1 (by have := (hno he).1; omega)
      rw [show k + (i - k) = i by have := (hno he).1; omega] at this
      rw [this]; exact hJk
    · cases he : isEff o.op with
      | true =>
        refine SLx.ext (s' := stAt ops val t (g y) n (doneAt D i)) ⟨hinv2, i + 1, y, by omega, fun j hj hej => ?_, fun j hj hjn hej => ?_, hy1 he, rfl⟩ (fun m => put_agree hB hin hdi m) rfl
        · simp only [doneAt]
          split
          · rfl
          · by_cases hjk : j < k
            · exact hk1 j hjk hej
            · exact ((hno he).2 j (by omega) (by omega) hej).elim
        · simp only [doneAt]
          rw [if_neg (by omega)]
          exact hk2 j (by have := (hno he).1; omega) hjn hej
      | false =>
        obtain rfl := hy2 he
        have hni : ∀ j, eff j → j ≠ i := fun j ⟨oj, hoj, hej⟩ hji => by
          subst hji
          rw [ho] at hoj
          cases hoj
          rw [he] at hej; cases hej
        refine SLx.ext (s' := stAt ops val t (g y) n (doneAt D i)) ⟨hinv2, k, y, hk, fun j hj hej => ?_, fun j hj hjn hej => ?_, hJk, rfl⟩ (fun m => put_agree hB hin hdi m) rfl
        · simp only [doneAt]; rw [if_neg (hni j hej)]; exact hk1 j hj hej
        · simp only [doneAt]; rw [if_neg (hni j hej)]; exact hk2 j hj hjn hej
  · rintro D s' hall ⟨hinv, k, x, hk, hk1, hk2, hJk, rfl⟩
    refine ⟨x, ?_, ?_⟩
    · rw [show n = k + (n - k) by omega, hsame (n - k) k (by omega) fun j h1 h2 he => ?_]
      · exact hJk
      · have := hk2 j h1 (by omega) he
        rw [hall j (by omega)] at this
        cases this
    · have : (List.range n).reverse.filter D = (List.range n).reverse := List.filter_eq_self.2 fun i hi => hall i (by simpa using hi)
      simp only [stAt, this]

/-- A DRAWN REGION, with a chain of operations that change memory: memory is g x for an x of which J says more and more. -/
theorem draw_chain {s : TS} {K : TS → Prop} {X : Type} (g : X → Heap) (J0 : X → Prop) (x0 : X) (hJ : J0 x0) (hs : s.h = g x0) (hm : P.follows .mixedOrders = true) (hedge : edgesOk ops = true) (hB : quietB ops ops.size = true) (hC : chainB ops ops.size = true)
    (h : chT P ops g x0 ops.toList J0 s.t fun t J => ∀ x, J x → K ⟨t, g x⟩) : drawT P ops s K := by
  obtain ⟨F, f1, f2, t', J', f3, f4⟩ := chT_parts (n := ops.size) hB hC (Nat.le_refl _) (by rw [show ops.toList.take ops.size = ops.toList from List.take_of_length_le (by simp)]; exact h)
  refine draw_F hm hedge F (SLx.ext2 (f1 x0 hJ) (fun _ => rfl) (fun _ => by rw [hs])) (fun D s' hF i o ho hD hall => f2 D s' hF i o ho (Array.getElem?_eq_some_iff.1 ho).1 hD hall) fun D s' hall hF => ?_
  obtain ⟨x, hx, rfl⟩ := f4 D s' hall hF
  exact f3 x hx

/-- The same, the last operation waits for all others and does what it will. -/
theorem draw_chainl {s : TS} {K : TS → Prop} {X : Type} (g : X → Heap) (J0 : X → Prop) (x0 : X) (hJ : J0 x0) (hs : s.h = g x0) (hm : P.follows .mixedOrders = true) (hedge : edgesOk ops = true) (hB : quietB ops (ops.size - 1) = true) (hC : chainB ops (ops.size - 1) = true) (hL : lastB ops = true)
    (h : chT P ops g x0 (ops.toList.take (ops.size - 1)) J0 s.t fun t J => ∀ x, J x → lastT P ops K ⟨t, g x⟩) : drawT P ops s K := by
  have hpos : 0 < ops.size := by
    unfold lastB at hL
    split at hL
    · rename_i o ho; have := (Array.getElem?_eq_some_iff.1 ho).1; omega
    · cases hL
  obtain ⟨F, f1, f2, t', J', f3, f4⟩ := chT_parts (n := ops.size - 1) hB hC (by omega) h
  refine draw_F hm hedge (fun D s' => (D (ops.size - 1) = false ∧ F D s') ∨ ((∀ j, j < ops.size → D j = true) ∧ K s')) (SLx.ext2 (s' := ⟨s.t, g x0⟩) (fun e E w tm a b => ?_) (fun _ => rfl) (fun _ => by rw [hs])) (fun D s' hF i o ho hD hall => ?_) fun D s' hall hF => ?_
  · obtain ⟨s2, E2, k1, k2⟩ := f1 x0 hJ e E w tm a b
    exact ⟨s2, E2, .inl ⟨rfl, k1⟩, k2⟩
  · have hi := (Array.getElem?_eq_some_iff.1 ho).1
    rcases hF with ⟨hF1, hF2⟩ | ⟨hF1, _⟩
    · by_cases hil : i = ops.size - 1
      · have hallD : ∀ j, j < ops.size - 1 → D j = true := fun j hj => by
          unfold lastB at hL
          rw [← hil, ho] at hL
          simp only [List.all_eq_true, List.mem_range, Bool.and_eq_true, decide_eq_true_eq, Array.any_eq_true'] at hL
          obtain ⟨e, he, hb, hej⟩ := hL j (by omega)
          exact hej ▸ hall e he hb
        obtain ⟨x, hx, rfl⟩ := f4 D s' hallD hF2
        have h2 := f3 x hx
        unfold lastT at h2
        rw [← hil, ho] at h2
        exact stepT_K (fun s' hs' => SLx.done (.inr ⟨fun j hj => by simp only [doneAt]; split; rfl; exact hallD j (by omega), hs'⟩)) h2
      · refine stepT_K (fun s' hs' e E w tm a b => ?_) (f2 D s' hF2 i o ho (by omega) hD hall)
        obtain ⟨s2, E2, k1, k2⟩ := hs' e E w tm a b
        exact ⟨s2, E2, .inl ⟨by simp only [doneAt]; rw [if_neg (Ne.symm hil)]; exact hF1, k1⟩, k2⟩
    · rw [hF1 i hi] at hD; cases hD
  · rcases hF with ⟨hF1, _⟩ | ⟨_, hk⟩
    · rw [hall _ (by omega)] at hF1; cases hF1
    · exact hk
/-- The state seen otherwise first. -/
theorem draw_pre {s : TS} {K : TS → Prop} (h : SLx s fun s' => drawT P ops s' K) : drawT P ops s K := by
  intro nt hdst e E w a H hT hn t
  obtain ⟨s', E', h1, l, H', hT'⟩ := h e E w a.tmps H hT
  refine wpOps_mono (fun ex a' w' hh => ?_) _ _ _ (h1 nt hdst e E' w a H' hT' hn t)
  obtain ⟨h1, s2, E2, k1, k2, k3⟩ := hh
  exact ⟨h1, s2, E2, k1, l.trans k2, k3⟩
end
end Go.Proofs.YtnkdkajllmopaaaGreat.TL

namespace Go.Proofs.YtnkdkajllmopaaaGreat.TL
open Go
set_option linter.unusedVariables false
set_option linter.unusedSimpArgs false

section
variable {P : Program} {ops : Array Oper}

/-- What does not look at memory. -/
def freeOp (o : Oper) : Bool := o.guard.isNone && match o.op with | .move _ | .assign _ => true | _ => false
def waitsFor (o : Oper) (j : Nat) : Bool := o.after.any fun e => Region.binds .any e && decide (e.on = j)
/-- All that must be done ahead of an operation. -/
def reqs (ops : Array Oper) (o : Oper) (m : Nat) : List Nat :=
  (List.range m).reverse.foldl (fun acc j => if waitsFor o j || acc.any (fun k => match ops[k]? with | some p => waitsFor p j | none => false) then j :: acc else acc) []
/-- Operation m is the effect: of those ahead of it, what it does not wait for does not look at memory; all behind it wait for all ahead of them. -/
def appB (ops : Array Oper) (m : Nat) : Bool :=
  ((List.range m).all fun j => !effAt ops j) &&
  (match ops[m]? with
    | some o => o.dst.isSome && isEff o.op && o.guard.isNone && ((List.range m).all fun j => (reqs ops o m).contains j || (match ops[j]? with | some p => freeOp p | none => false)) &&
        ((reads ops o).all fun x => (List.range m).all fun j => decide (dstAt ops j ≠ x) || (reqs ops o m).contains j) && (List.range m).all fun j => decide (dstAt ops j ≠ dstAt ops m) &&
        (match ops[j]? with | some p => (reads ops p).all fun x => decide (x ≠ dstAt ops m) | none => false)
    | none => false) &&
  (List.range ops.size).all fun i => decide (i ≤ m) || match ops[i]? with | some o => waitsFor o (i - 1) && (decide (i ≠ m + 1) || (List.range i).all fun j => waitsFor o j) | none => false

theorem qstep_free {o : Oper} {t : List (Nat × TV)} {h h' : Heap} {J : Unit → Prop} {K : List (Nat × TV) → (Unit → Prop) → Prop} (hf : freeOp o = true) (hq : chStep P ops (fun _ : Unit => h) () o J t K) : chStep P ops (fun _ : Unit => h') () o J t K := by
  unfold freeOp at hf
  simp only [Bool.and_eq_true] at hf
  obtain ⟨hg, hop⟩ := hf
  have hg' : o.guard = none := by simpa using hg
  have hgs : guardsOf ops t o = some [] := by unfold guardsOf; rw [hg']
  unfold chStep at hq ⊢
  rw [hgs] at hq ⊢
  simp only at hq ⊢
  split at hop
  · rename_i x ho
    rw [ho] at hq ⊢
    obtain ⟨a, b, c, dd, e⟩ := hq
    exact ⟨a, b, fun _ => rfl, fun _ => trivial, by cases x <;> exact e⟩
  · rename_i x ho
    rw [ho] at hq ⊢
    obtain ⟨a, b, c, dd, e⟩ := hq
    exact ⟨a, b, fun _ => rfl, fun _ => trivial, by cases x <;> exact e⟩
  · cases hop

theorem waits_done {o : Oper} {D : Nat → Bool} {j : Nat} (hw : waitsFor o j = true) (hall : ∀ e ∈ o.after, Region.binds .any e = true → D e.on = true) : D j = true := by
  obtain ⟨e, he, hb⟩ := Array.any_eq_true'.1 hw
  simp only [Bool.and_eq_true, decide_eq_true_eq] at hb
  exact hb.2 ▸ hall e he hb.1

theorem reqs_done {o : Oper} {D : Nat → Bool} {m : Nat} (hall : ∀ e ∈ o.after, Region.binds .any e = true → D e.on = true) (hinv : ∀ (k : Nat) (p : Oper) (j : Nat), ops[k]? = some p → D k = true → waitsFor p j = true → D j = true) : ∀ j, (reqs ops o m).contains j = true → D j = true := by
  have key : ∀ (l acc : List Nat), (∀ j ∈ acc, D j = true) → ∀ j ∈ l.foldl (fun acc j => if waitsFor o j || acc.any (fun k => match ops[k]? with | some p => waitsFor p j | none => false) then j :: acc else acc) acc, D j = true := by
    intro l
    induction l with
    | nil => intro acc h; exact h
    | cons x l ih =>
      intro acc h
      simp only [List.foldl_cons]
      refine ih _ fun j hj => ?_
      split at hj
      · rename_i hc
        rcases List.mem_cons.1 hj with rfl | hj
        · rcases Bool.or_eq_true _ _ ▸ hc with hc | hc
          · exact waits_done hc hall
          · obtain ⟨k, hk, hk2⟩ := List.any_eq_true.1 hc
            split at hk2
            · rename_i p hp
              exact hinv k p j hp (h k hk) hk2
            · cases hk2
        · exact h j hj
      · exact h j hj
  intro j hj
  have h2 : j ∈ reqs ops o m := by simpa using hj
  unfold reqs at h2
  exact key _ [] (fun _ hh => by cases hh) j h2

theorem drop_at {l : List Oper} {k : Nat} {o : Oper} (h : l[k]? = some o) : l.drop k = o :: l.drop (k + 1) := by
  have hk := (List.getElem?_eq_some_iff.1 h)
  obtain ⟨h1, rfl⟩ := hk
  exact List.drop_eq_getElem_cons h1

theorem draw_app {s : TS} {K : TS → Prop} (m d : Nat) (o : Oper) (ho : ops[m]? = some o) (hd : o.dst = some d) (hm : P.follows .mixedOrders = true) (hedge : edgesOk ops = true) (hB : quietB ops m = true) (hA : appB ops m = true)
    (h : chT P ops (fun _ : Unit => s.h) () (ops.toList.take m) (fun _ => True) s.t fun t1 _ => effT P d o.op ⟨t1, s.h⟩ fun r h' => opsT P ops (ops.toList.drop (m + 1)) ⟨(d, r) :: t1, h'⟩ K) : drawT P ops s K := by
  have hmlt := (Array.getElem?_eq_some_iff.1 ho).1
  have hdm : dstAt ops m = d := by simp [dstAt, ho, hd]
  unfold appB at hA
  simp only [ho, Bool.and_eq_true, List.all_eq_true, List.mem_range, Bool.or_eq_true, decide_eq_true_eq] at hA
  obtain ⟨⟨hAn, ⟨⟨⟨⟨⟨_, hAe⟩, hAg⟩, hAw⟩, hAr⟩, hAd⟩⟩, hAl⟩ := hA
  have hds : ∀ (i : Nat) (p : Oper), i < m → ops[i]? = some p → p.dst.isSome = true := fun i p hi hp => by
    have := List.all_eq_true.1 hB i (by simpa using hi)
    simp only [hp, Bool.and_eq_true] at this
    exact this.1.1
  have hne : ∀ i p, i < m → ops[i]? = some p → isEff p.op = false := fun i p hi hp => by
    have := hAn i hi
    simp only [effAt, hp, Bool.not_eq_true'] at this
    exact this
  obtain ⟨val, Jat, -, hJ0, h2, h3⟩ := chain_vals (P := P) (ops := ops) (g := fun _ : Unit => s.h) (x0 := ()) (t := s.t) (ops.toList.take m) 0 (fun _ => .any) (fun _ _ => True) (fun i p hi => by
    rw [Nat.zero_add]
    rw [List.getElem?_take] at hi
    split at hi
    · rename_i hlt
      have hp : ops[i]? = some p := by simpa using hi
      exact ⟨hp, hds i p hlt hp⟩
    · cases hi) (by simpa [tAt] using h)
  have hlen : (ops.toList.take m).length = m := by simp; omega
  rw [hlen, Nat.zero_add] at h2
  have h3' : ∀ i p, i < m → ops[i]? = some p → chStep P ops (fun _ : Unit => s.h) () p (Jat i) (tAt ops val s.t (List.range i).reverse) fun t2 J2 => t2 = (p.dst.getD 0, val i) :: tAt ops val s.t (List.range i).reverse ∧ J2 = Jat (i + 1) := fun i p hi hp => by
    have := h3 i p (by rw [List.getElem?_take, if_pos hi]; simpa using hp)
    rwa [Nat.zero_add] at this
  let full := tAt ops val s.t (List.range m).reverse
  let part := fun D : Nat → Bool => tAt ops val s.t ((List.range m).reverse.filter D)
  have hfull : ∀ D : Nat → Bool, (∀ i, i < m → D i = true) → part D = full := fun D hall => by
    show tAt ops val s.t ((List.range m).reverse.filter D) = _
    rw [List.filter_eq_self.2 fun i hi => hall i (by simpa using hi)]
  let Post := fun (r : TV) (h' : Heap) => opsT P ops (ops.toList.drop (m + 1)) ⟨(d, r) :: full, h'⟩ K
  have hprev : ∀ i p, ops[i]? = some p → m < i → ∀ D : Nat → Bool, (∀ e ∈ p.after, Region.binds .any e = true → D e.on = true) → D (i - 1) = true := fun i p hp hi D hall => by
    have := hAl i (by simpa using (Array.getElem?_eq_some_iff.1 hp).1)
    rcases this with h | h
    · omega
    · rw [hp] at h
      simp only [Bool.and_eq_true] at h
      exact waits_done h.1 hall
  have hfirst : ∀ p, ops[m + 1]? = some p → ∀ D : Nat → Bool, (∀ e ∈ p.after, Region.binds .any e = true → D e.on = true) → ∀ j, j < m + 1 → D j = true := fun p hp D hall j hj => by
    have := hAl (m + 1) (by simpa using (Array.getElem?_eq_some_iff.1 hp).1)
    rcases this with h | h
    · omega
    · rw [hp] at h
      simp only [Bool.and_eq_true, Bool.or_eq_true, decide_eq_true_eq, ne_eq, not_true_eq_false, false_or] at h
      exact waits_done (List.all_eq_true.1 h.2 j (by simpa using hj)) hall
  refine draw_F hm hedge (fun D s' => ((∀ i, m ≤ i → D i = false) ∧ (∀ (k : Nat) (p : Oper) (j : Nat), ops[k]? = some p → D k = true → waitsFor p j = true → D j = true) ∧ s' = ⟨part D, s.h⟩) ∨ (D m = true ∧ (∀ i, m < i → D i = false) ∧ (∀ j, j < m → (reqs ops o m).contains j = true → D j = true) ∧ ∃ r h', Post r h' ∧ s' = ⟨(d, r) :: part D, h'⟩) ∨
    (∃ k, m < k ∧ (∀ i, i < k → D i = true) ∧ (∀ i, k ≤ i → D i = false) ∧ opsT P ops (ops.toList.drop k) s' K)) (SLx.ext (s' := ⟨part fun _ => false, s.h⟩) (.inl ⟨fun _ _ => rfl, fun _ _ _ _ h => (Bool.false_ne_true h).elim, rfl⟩) (fun n => by
      show getT (tAt ops val s.t ((List.range m).reverse.filter fun _ => false)) n = _
      rw [show (List.range m).reverse.filter (fun _ => false) = [] by simp]; rfl) rfl) (fun D s' hF i p hp hD hall => ?_) fun D s' hall hF => ?_
  · rcases hF with ⟨hF1, hFi, rfl⟩ | ⟨hF1, hF2, hF3, r, h', hPost, rfl⟩ | ⟨k, hk, hk1, hk2, hk3⟩
    · by_cases him : i < m
      · obtain ⟨di, hdi⟩ := Option.isSome_iff_exists.1 (hds i p him hp)
        have hdi' : dstAt ops i = di := by simp [dstAt, hp, hdi]
        refine (chStep_stepT (x := ()) (J' := Jat (i + 1)) (v := val i) hdi (reads_agree hB him hp hall) (h3' i p him hp) (fun he => by rw [hne i p him hp] at he; cases he) fun y hy1 hy2 => ?_).2
        refine SLx.ext (s' := ⟨part (doneAt D i), s.h⟩) (.inl ⟨fun j hj => by simp only [doneAt]; rw [if_neg (by omega)]; exact hF1 j hj, fun k' p' j' hp' hk' hw' => ?_, rfl⟩) (fun n => put_agree hB him hdi' n) rfl
        simp only [doneAt] at hk' ⊢
        split
        · rfl
        · split at hk'
          · rename_i hki
            rw [hki, hp] at hp'
            cases hp'
            exact waits_done hw' hall
          · exact hFi k' p' j' hp' hk' hw'
      · by_cases hie : i = m
        · rw [hie] at hp hD ⊢
          have hpo : p = o := (Option.some.inj (ho.symm.trans hp)).symm
          rw [hpo] at hall ⊢
          have uni := dst_uni hB
          have hg' : o.guard = none := by simpa using hAg
          have hpart : part (doneAt D m) = part D := by
            show tAt ops val s.t ((List.range m).reverse.filter (doneAt D m)) = _
            rw [List.filter_congr fun j hj => show doneAt D m j = D j by simp only [doneAt]; rw [if_neg (by simp at hj; omega)]]
          have hx : ∀ x ∈ opnds o.op, (⟨full, s.h⟩ : TS).ev x = (⟨part D, s.h⟩ : TS).ev x := fun x hx => by
            cases x with
            | tmp t =>
              have htr : t ∈ reads ops o := List.mem_append_left _ (List.mem_filterMap.2 ⟨.tmp t, hx, rfl⟩)
              show getT full t = getT (part D) t
              by_cases hex : ∃ j, j < m ∧ dstAt ops j = t
              · obtain ⟨j, hj, hjt⟩ := hex
                rcases hAr t htr j hj with h5 | h5
                · exact (h5 hjt).elim
                · have hDj := reqs_done hall hFi j h5
                  rw [getT_tAt (j := j) (by simp [hj]) hjt (fun k hk hkx => uni k j (by simp at hk; omega) hj (hkx.trans hjt.symm)), getT_tAt (j := j) (by simp [hj, hDj]) hjt (fun k hk hkx => uni k j (by simp at hk; omega) hj (hkx.trans hjt.symm))]
              · have hno : ∀ k, k < m → dstAt ops k ≠ t := fun k hk hkx => hex ⟨k, hk, hkx⟩
                rw [getT_tAt_no (fun k hk => hno k (by simp at hk; omega)), getT_tAt_no (fun k hk => hno k (by simp at hk; omega))]
            | const v => rfl
            | global g => rfl
            | func f => rfl
          refine stepT_intro (gs := []) (by unfold guardsOf; rw [hg']) (.inr ⟨qop_eff hAe, ?_⟩)
          simp only [allB, guardE_true, stripS_nil]
          have hdd : o.dst.getD 0 = d := by simp [hd]
          rw [hdd]
          refine effT_K (fun r h' hP => SLx.done (.inr (.inl ⟨by simp [doneAt], fun j hj => ?_, fun j hj hw => ?_, r, h', hP, ?_⟩))) (effT_congr (s := ⟨full, s.h⟩) rfl hAe hx h2)
          · simp only [doneAt]; rw [if_neg (by omega)]; exact hF1 j (by omega)
          · simp only [doneAt]; split; rfl; exact reqs_done hall hFi j hw
          · rw [hpart]; simp [TS.to, hd]
        · have := hprev i p hp (by omega) D hall
          rw [hF1 (i - 1) (by omega)] at this; cases this
    · by_cases him : i < m
      · have uni := dst_uni hB
        have hfree : freeOp p = true := by
          rcases hAw i him with h5 | h5
          · rw [hF3 i him h5] at hD; cases hD
          · rw [hp] at h5; exact h5
        obtain ⟨di, hdi⟩ := Option.isSome_iff_exists.1 (hds i p him hp)
        have hdi' : dstAt ops i = di := by simp [dstAt, hp, hdi]
        have hned : di ≠ d := by rw [← hdi', ← hdm]; exact (hAd i him).1
        have hnr : ∀ x ∈ reads ops p, x ≠ d := fun x hx => by
          have := (hAd i him).2
          rw [hp] at this
          have := List.all_eq_true.1 this x hx
          rw [← hdm]; simpa using this
        refine (chStep_stepT (g := fun _ : Unit => h') (x := ()) (J' := Jat (i + 1)) (v := val i) hdi (t' := (d, r) :: part D) (fun x hx => ?_) (qstep_free hfree (h3' i p him hp)) (fun he => by rw [hne i p him hp] at he; cases he) fun y hy1 hy2 => ?_).2
        · show getT (tAt ops val s.t (List.range i).reverse) x = getT ((d, r) :: part D) x
          simp only [getT]
          rw [if_neg (hnr x hx)]
          exact reads_agree hB him hp hall x hx
        · refine SLx.ext (s' := ⟨(d, r) :: part (doneAt D i), h'⟩) (.inr (.inl ⟨?_, fun j hj => ?_, fun j hj hw => ?_, r, h', hPost, rfl⟩)) (fun n => ?_) rfl
          · simp only [doneAt]; split; rfl; exact hF1
          · simp only [doneAt]; rw [if_neg (by omega)]; exact hF2 j hj
          · simp only [doneAt]; split; rfl; exact hF3 j hj hw
          · show getT ((d, r) :: part (doneAt D i)) n = getT ((di, val i) :: (d, r) :: part D) n
            have := put_agree (t := s.t) (val := val) (D := D) hB him hdi' n
            simp only [getT] at this ⊢
            by_cases h1 : n = d
            · rw [if_pos h1, if_neg (by rw [h1]; exact Ne.symm hned), if_pos h1]
            · rw [if_neg h1]
              show getT (tAt ops val s.t ((List.range m).reverse.filter (doneAt D i))) n = _
              rw [this]
              split
              · rfl
              · rfl
      · by_cases hie : i = m
        · rw [hie, hF1] at hD; cases hD
        · have hi1 : i = m + 1 := by
            by_cases h1 : m + 1 < i
            · have := hprev i p hp (by omega) D hall
              rw [hF2 (i - 1) (by omega)] at this; cases this
            · omega
          subst hi1
          have hall2 := hfirst p hp D hall
          rw [hfull D fun j hj => hall2 j (by omega)]
          simp only [Post] at hPost
          rw [drop_at (show ops.toList[m + 1]? = some p by simpa using hp)] at hPost
          refine stepT_K (fun s'' hs'' => SLx.done (.inr (.inr ⟨m + 1 + 1, by omega, fun j hj => ?_, fun j hj => ?_, hs''⟩))) hPost
          · simp only [doneAt]; split; rfl; exact hall2 j (by omega)
          · simp only [doneAt]; rw [if_neg (by omega)]; exact hF2 j (by omega)
    · have hi : i = k := by
        by_cases h1 : i < k
        · rw [hk1 i h1] at hD; cases hD
        · by_cases h2 : k < i
          · have := hprev i p hp (by omega) D hall
            rw [hk2 (i - 1) (by omega)] at this; cases this
          · omega
      subst hi
      rw [drop_at (show ops.toList[i]? = some p by simpa using hp)] at hk3
      refine stepT_K (fun s'' hs'' => SLx.done (.inr (.inr ⟨i + 1, by omega, fun j hj => ?_, fun j hj => ?_, hs''⟩))) hk3
      · simp only [doneAt]; split; rfl; exact hk1 j (by omega)
      · simp only [doneAt]; rw [if_neg (by omega)]; exact hk2 j (by omega)
  · rcases hF with ⟨hF1, _, rfl⟩ | ⟨hF1, hF2, hF3, r, h', hPost, rfl⟩ | ⟨k, hk, hk1, hk2, hk3⟩
    · exact absurd (hall m hmlt) (by simp [hF1 m (Nat.le_refl _)])
    · have hsz : ops.size = m + 1 := by
        by_cases h1 : m + 1 < ops.size
        · have := hall (m + 1) h1; rw [hF2 (m + 1) (by omega)] at this; cases this
        · omega
      have : ops.toList.drop (m + 1) = [] := List.drop_eq_nil_of_le (by simp; omega)
      simp only [Post, this] at hPost
      rw [hfull D fun i hi => hall i (by omega)]
      exact hPost
    · have hsz : ops.size ≤ k := by
        by_cases h1 : k < ops.size
        · have := hall k h1; rw [hk2 k (Nat.le_refl _)] at this; cases this
        · omega
      have : ops.toList.drop k = [] := List.drop_eq_nil_of_le (by simpa using hsz)
      rw [this] at hk3
      exact hk3

/-- A slot filled, if there is one. -/
def dl (od : Option Nat) (r : TV) (t : List (Nat × TV)) : List (Nat × TV) := match od with | some d => (d, r) :: t | none => t
/-- Operation m is the effect, rq is what must be done ahead of it; all behind it wait for all ahead of them. -/
def stB (ops : Array Oper) (m : Nat) (rq : List Nat) : Bool :=
  ((List.range m).all fun j => !effAt ops j) &&
  (match ops[m]? with
    | some o => isEff o.op && o.guard.isNone && (reqs ops o m == rq) && ((reads ops o).all fun x => (List.range m).all fun j => decide (dstAt ops j ≠ x) || rq.contains j) && match o.dst with
        | some d => (List.range m).all fun j => decide (dstAt ops j ≠ d) && (match ops[j]? with | some p => (reads ops p).all fun x => decide (x ≠ d) | none => false)
        | none => true
    | none => false) &&
  (List.range ops.size).all fun i => decide (i ≤ m) || match ops[i]? with | some o => waitsFor o (i - 1) && (decide (i ≠ m + 1) || (List.range i).all fun j => waitsFor o j) | none => false
/-- What the effect need not wait for is in the memory behind it what it was. -/
def chA (P : Program) (ops : Array Oper) (h' : Heap) (rq : List Nat) (t1 : List (Nat × TV)) : Nat → List Oper → List (Nat × TV) → Prop
  | _, [], _ => True
  | i, o :: l, t => if (rq.contains i || freeOp o) = true then chA P ops h' rq t1 (i + 1) l ((o.dst.getD 0, getT t1 (o.dst.getD 0)) :: t)
      else chStep P ops (fun _ : Unit => h') () o (fun _ => True) t (fun t2 _ => t2 = (o.dst.getD 0, getT t1 (o.dst.getD 0)) :: t) ∧ chA P ops h' rq t1 (i + 1) l ((o.dst.getD 0, getT t1 (o.dst.getD 0)) :: t)

theorem chA_get {h' : Heap} {rq : List Nat} {val : Nat → TV} {t0 : List (Nat × TV)} {m : Nat} (hB : quietB ops m = true) (hm : m ≤ ops.size) : ∀ (l : List Oper) (k : Nat), k + l.length = m → (∀ i o, l[i]? = some o → ops[k + i]? = some o) →
    chA P ops h' rq (tAt ops val t0 (List.range m).reverse) k l (tAt ops val t0 (List.range k).reverse) → ∀ i p, l[i]? = some p → (rq.contains (k + i) || freeOp p) = false →
    chStep P ops (fun _ : Unit => h') () p (fun _ => True) (tAt ops val t0 (List.range (k + i)).reverse) fun t2 _ => t2 = (p.dst.getD 0, val (k + i)) :: tAt ops val t0 (List.range (k + i)).reverse
  | [], k, _, _, _, i, p, hi, _ => by simp at hi
  | o :: l, k, hk, hl, h, i, p, hi, hf => by
    have ho := hl 0 o rfl
    rw [Nat.add_zero] at ho
    simp only [List.length_cons] at hk
    have hkm : k < m := by omega
    have hd : o.dst.getD 0 = dstAt ops k := by simp [dstAt, ho]
    have hv : getT (tAt ops val t0 (List.range m).reverse) (o.dst.getD 0) = val k := by
      rw [hd]
      exact getT_tAt (j := k) (by simp [hkm]) rfl (fun q hq hqx => dst_uni hB q k (by simp at hq; omega) hkm hqx)
    have hn : (o.dst.getD 0, val k) :: tAt ops val t0 (List.range k).reverse = tAt ops val t0 (List.range (k + 1)).reverse := by
      rw [List.range_succ, List.reverse_append, List.reverse_singleton, List.singleton_append]
      simp only [tAt, List.map_cons, List.cons_append, hd]
    simp only [chA, hv, hn] at h
    have hnext : ∀ h2 : chA P ops h' rq (tAt ops val t0 (List.range m).reverse) (k + 1) l (tAt ops val t0 (List.range (k + 1)).reverse), ∀ i' p', l[i']? = some p' → (rq.contains (k + 1 + i') || freeOp p') = false →
        chStep P ops (fun _ : Unit => h') () p' (fun _ => True) (tAt ops val t0 (List.range (k + 1 + i')).reverse) fun t2 _ => t2 = (p'.dst.getD 0, val (k + 1 + i')) :: tAt ops val t0 (List.range (k + 1 + i')).reverse :=
      fun h2 => chA_get hB hm l (k + 1) (by omega) (fun i' o' hi' => by have := hl (i' + 1) o' (by simpa using hi'); rwa [show k + (i' + 1) = k + 1 + i' by omega] at this) h2
    cases i with
    | zero =>
      simp at hi
      subst hi
      rw [Nat.add_zero] at hf ⊢
      rw [if_neg (by rw [hf]; simp)] at h
      rw [hn]
      exact h.1
    | succ i =>
      have hi' : l[i]? = some p := by simpa using hi
      have := hnext (by split at h; exact h; exact h.2) i p hi' (by rw [show k + 1 + i = k + (i + 1) by omega]; exact hf)
      rwa [show k + 1 + i = k + (i + 1) by omega] at this

theorem chStep_iff {X : Type} {g : X → Heap} {x0 : X} {o : Oper} {J : X → Prop} {t : List (Nat × TV)} {K : List (Nat × TV) → (X → Prop) → Prop} (he : isEff o.op = false) : chStep P ops g x0 o J t K ↔
    ∃ gs p, guardsOf ops t o = some gs ∧ qopB P ⟨t, g x0⟩ (fun x => stripL gs ((⟨t, g x0⟩ : TS).ev x)) o.op = some p ∧ impL gs p.1 ∧ (∀ x, qopB P ⟨t, g x⟩ (fun x => stripL gs ((⟨t, g x0⟩ : TS).ev x)) o.op = some p) ∧ (∀ x, freshB o.op (g x) (o.dst.getD 0)) ∧ K ((o.dst.getD 0, optL gs p.2) :: t) J := by
  constructor
  · intro h
    unfold chStep at h
    split at h
    · exact h.elim
    · rename_i gs hgs
      split at h
      · rename_i p hp
        exact ⟨gs, p, hgs, hp, h.2.1, h.2.2.1, h.2.2.2.1, h.2.2.2.2⟩
      · rw [he] at h; cases h.1
  · rintro ⟨gs, p, h1, h2, h3, h4, h5, h6⟩
    unfold chStep
    rw [h1]
    simp only
    rw [h2]
    exact ⟨he, h3, h4, h5, h6⟩
theorem chStep_J {o : Oper} {h : Heap} {J J' : Unit → Prop} {t : List (Nat × TV)} {v : TV} {K : List (Nat × TV) → (Unit → Prop) → Prop} (hK : ∀ t2 J2, K t2 J2 → t2 = (o.dst.getD 0, v) :: t) (he : isEff o.op = false) (hq : chStep P ops (fun _ : Unit => h) () o J t K) :
    chStep P ops (fun _ : Unit => h) () o J' t fun t2 J2 => t2 = (o.dst.getD 0, v) :: t ∧ J2 = J' := by
  rw [chStep_iff he] at hq ⊢
  obtain ⟨gs, p, h1, h2, h3, h4, h5, h6⟩ := hq
  exact ⟨gs, p, h1, h2, h3, h4, h5, hK _ _ h6, rfl⟩

/-- A DRAWN REGION: operations that change nothing, one effect (operation m, which waits for rq alone), then one behind the other. -/
theorem draw_st {s : TS} {K : TS → Prop} (m : Nat) (rq : List Nat) (hm : P.follows .mixedOrders = true) (hedge : edgesOk ops = true) (hB : quietB ops m = true) (hA : stB ops m rq = true)
    (h : match ops[m]? with | some o => chT P ops (fun _ : Unit => s.h) () (ops.toList.take m) (fun _ => True) s.t fun t1 _ => effT P (o.dst.getD 0) o.op ⟨t1, s.h⟩ fun r h' => chA P ops h' rq t1 0 (ops.toList.take m) s.t ∧ opsT P ops (ops.toList.drop (m + 1)) ⟨dl o.dst r t1, h'⟩ K | none => False) : drawT P ops s K := by
  cases ho : ops[m]? with
  | none => rw [ho] at h; exact h.elim
  | some o =>
  rw [ho] at h
  simp only at h
  have hmlt := (Array.getElem?_eq_some_iff.1 ho).1
  unfold stB at hA
  simp only [ho, Bool.and_eq_true, List.all_eq_true, List.mem_range, Bool.or_eq_true, decide_eq_true_eq, beq_iff_eq] at hA
  obtain ⟨⟨hAn, ⟨⟨⟨hAe, hAg⟩, hAq⟩, hAr⟩, hAd0⟩, hAl⟩ := hA
  have hAd : ∀ d, o.dst = some d → ∀ j, j < m → dstAt ops j ≠ d ∧ (match ops[j]? with | some p => (reads ops p).all fun x => decide (x ≠ d) | none => false) = true := fun d hd j hj => by
    rw [hd] at hAd0
    simp only [List.all_eq_true, List.mem_range, Bool.and_eq_true, decide_eq_true_eq] at hAd0
    have := hAd0 j hj
    refine ⟨this.1, ?_⟩
    have h2 := this.2
    split at h2
    · simp only [List.all_eq_true, decide_eq_true_eq]
      simpa using h2
    · cases h2
  have hds : ∀ (i : Nat) (p : Oper), i < m → ops[i]? = some p → p.dst.isSome = true := fun i p hi hp => by
    have := List.all_eq_true.1 hB i (by simpa using hi)
    simp only [hp, Bool.and_eq_true] at this
    exact this.1.1
  have hne : ∀ i p, i < m → ops[i]? = some p → isEff p.op = false := fun i p hi hp => by
    have := hAn i hi
    simp only [effAt, hp, Bool.not_eq_true'] at this
    exact this
  obtain ⟨val, Jat, -, hJ0, h2, h3⟩ := chain_vals (P := P) (ops := ops) (g := fun _ : Unit => s.h) (x0 := ()) (t := s.t) (ops.toList.take m) 0 (fun _ => .any) (fun _ _ => True) (fun i p hi => by
    rw [Nat.zero_add]
    rw [List.getElem?_take] at hi
    split at hi
    · rename_i hlt
      have hp : ops[i]? = some p := by simpa using hi
      exact ⟨hp, hds i p hlt hp⟩
    · cases hi) (by simpa [tAt] using h)
  have hlen : (ops.toList.take m).length = m := by simp; omega
  rw [hlen, Nat.zero_add] at h2
  have h3' : ∀ i p, i < m → ops[i]? = some p → chStep P ops (fun _ : Unit => s.h) () p (Jat i) (tAt ops val s.t (List.range i).reverse) fun t2 J2 => t2 = (p.dst.getD 0, val i) :: tAt ops val s.t (List.range i).reverse ∧ J2 = Jat (i + 1) := fun i p hi hp => by
    have := h3 i p (by rw [List.getElem?_take, if_pos hi]; simpa using hp)
    rwa [Nat.zero_add] at this
  let full := tAt ops val s.t (List.range m).reverse
  let part := fun D : Nat → Bool => tAt ops val s.t ((List.range m).reverse.filter D)
  have hfull : ∀ D : Nat → Bool, (∀ i, i < m → D i = true) → part D = full := fun D hall => by
    show tAt ops val s.t ((List.range m).reverse.filter D) = _
    rw [List.filter_eq_self.2 fun i hi => hall i (by simpa using hi)]
  let Post := fun (r : TV) (h' : Heap) => chA P ops h' rq full 0 (ops.toList.take m) s.t ∧ opsT P ops (ops.toList.drop (m + 1)) ⟨dl o.dst r full, h'⟩ K
  have hprev : ∀ i p, ops[i]? = some p → m < i → ∀ D : Nat → Bool, (∀ e ∈ p.after, Region.binds .any e = true → D e.on = true) → D (i - 1) = true := fun i p hp hi D hall => by
    have := hAl i (by simpa using (Array.getElem?_eq_some_iff.1 hp).1)
    rcases this with h | h
    · omega
    · rw [hp] at h
      simp only [Bool.and_eq_true] at h
      exact waits_done h.1 hall
  have hfirst : ∀ p, ops[m + 1]? = some p → ∀ D : Nat → Bool, (∀ e ∈ p.after, Region.binds .any e = true → D e.on = true) → ∀ j, j < m + 1 → D j = true := fun p hp D hall j hj => by
    have := hAl (m + 1) (by simpa using (Array.getElem?_eq_some_iff.1 hp).1)
    rcases this with h | h
    · omega
    · rw [hp] at h
      simp only [Bool.and_eq_true, Bool.or_eq_true, decide_eq_true_eq, ne_eq, not_true_eq_false, false_or] at h
      exact waits_done (List.all_eq_true.1 h.2 j (by simpa using hj)) hall
  refine draw_F hm hedge (fun D s' => ((∀ i, m ≤ i → D i = false) ∧ (∀ (k : Nat) (p : Oper) (j : Nat), ops[k]? = some p → D k = true → waitsFor p j = true → D j = true) ∧ s' = ⟨part D, s.h⟩) ∨ (D m = true ∧ (∀ i, m < i → D i = false) ∧ (∀ j, j < m → rq.contains j = true → D j = true) ∧ ∃ r h', Post r h' ∧ s' = ⟨dl o.dst r (part D), h'⟩) ∨
    (∃ k, m < k ∧ (∀ i, i < k → D i = true) ∧ (∀ i, k ≤ i → D i = false) ∧ opsT P ops (ops.toList.drop k) s' K)) (SLx.ext (s' := ⟨part fun _ => false, s.h⟩) (.inl ⟨fun _ _ => rfl, fun _ _ _ _ h => (Bool.false_ne_true h).elim, rfl⟩) (fun n => by
      show getT (tAt ops val s.t ((List.range m).reverse.filter fun _ => false)) n = _
      rw [show (List.range m).reverse.filter (fun _ => false) = [] by simp]; rfl) rfl) (fun D s' hF i p hp hD hall => ?_) fun D s' hall hF => ?_
  · rcases hF with ⟨hF1, hFi, rfl⟩ | ⟨hF1, hF2, hF3, r, h', hPost, rfl⟩ | ⟨k, hk, hk1, hk2, hk3⟩
    · by_cases him : i < m
      · obtain ⟨di, hdi⟩ := Option.isSome_iff_exists.1 (hds i p him hp)
        have hdi' : dstAt ops i = di := by simp [dstAt, hp, hdi]
        refine (chStep_stepT (x := ()) (J' := Jat (i + 1)) (v := val i) hdi (reads_agree hB him hp hall) (h3' i p him hp) (fun he => by rw [hne i p him hp] at he; cases he) fun y hy1 hy2 => ?_).2
        refine SLx.ext (s' := ⟨part (doneAt D i), s.h⟩) (.inl ⟨fun j hj => by simp only [doneAt]; rw [if_neg (by omega)]; exact hF1 j hj, fun k' p' j' hp' hk' hw' => ?_, rfl⟩) (fun n => put_agree hB him hdi' n) rfl
        simp only [doneAt] at hk' ⊢
        split
        · rfl
        · split at hk'
          · rename_i hki
            rw [hki, hp] at hp'
            cases hp'
            exact waits_done hw' hall
          · exact hFi k' p' j' hp' hk' hw'
      · by_cases hie : i = m
        · rw [hie] at hp hD ⊢
          have hpo : p = o := (Option.some.inj (ho.symm.trans hp)).symm
          rw [hpo] at hall ⊢
          have uni := dst_uni hB
          have hg' : o.guard = none := by simpa using hAg
          have hpart : part (doneAt D m) = part D := by
            show tAt ops val s.t ((List.range m).reverse.filter (doneAt D m)) = _
            rw [List.filter_congr fun j hj => show doneAt D m j = D j by simp only [doneAt]; rw [if_neg (by simp at hj; omega)]]
          have hx : ∀ x ∈ opnds o.op, (⟨full, s.h⟩ : TS).ev x = (⟨part D, s.h⟩ : TS).ev x := fun x hx => by
            cases x with
            | tmp t =>
              have htr : t ∈ reads ops o := List.mem_append_left _ (List.mem_filterMap.2 ⟨.tmp t, hx, rfl⟩)
              show getT full t = getT (part D) t
              by_cases hex : ∃ j, j < m ∧ dstAt ops j = t
              · obtain ⟨j, hj, hjt⟩ := hex
                rcases hAr t htr j hj with h5 | h5
                · exact (h5 hjt).elim
                · have hDj := reqs_done hall hFi j (by rw [hAq]; exact h5)
                  rw [getT_tAt (j := j) (by simp [hj]) hjt (fun k hk hkx => uni k j (by simp at hk; omega) hj (hkx.trans hjt.symm)), getT_tAt (j := j) (by simp [hj, hDj]) hjt (fun k hk hkx => uni k j (by simp at hk; omega) hj (hkx.trans hjt.symm))]
              · have hno : ∀ k, k < m → dstAt ops k ≠ t := fun k hk hkx => hex ⟨k, hk, hkx⟩
                rw [getT_tAt_no (fun k hk => hno k (by simp at hk; omega)), getT_tAt_no (fun k hk => hno k (by simp at hk; omega))]
            | const v => rfl
            | global g => rfl
            | func f => rfl
          refine stepT_intro (gs := []) (by unfold guardsOf; rw [hg']) (.inr ⟨qop_eff hAe, ?_⟩)
          simp only [allB, guardE_true, stripS_nil]
          refine effT_K (fun r h' hP => SLx.done (.inr (.inl ⟨by simp [doneAt], fun j hj => ?_, fun j hj hw => ?_, r, h', hP, ?_⟩))) (effT_congr (s := ⟨full, s.h⟩) rfl hAe hx h2)
          · simp only [doneAt]; rw [if_neg (by omega)]; exact hF1 j (by omega)
          · simp only [doneAt]; split; rfl; exact reqs_done hall hFi j (by rw [hAq]; exact hw)
          · rw [hpart]; unfold dl TS.to; cases o.dst <;> rfl
        · have := hprev i p hp (by omega) D hall
          rw [hF1 (i - 1) (by omega)] at this; cases this
    · by_cases him : i < m
      · have uni := dst_uni hB
        obtain ⟨di, hdi⟩ := Option.isSome_iff_exists.1 (hds i p him hp)
        have hdi' : dstAt ops i = di := by simp [dstAt, hp, hdi]
        have hnrq : rq.contains i = false := by
          cases hc : rq.contains i with
          | false => rfl
          | true => rw [hF3 i him hc] at hD; cases hD
        have hst : chStep P ops (fun _ : Unit => h') () p (Jat i) (tAt ops val s.t (List.range i).reverse) fun t2 J2 => t2 = (p.dst.getD 0, val i) :: tAt ops val s.t (List.range i).reverse ∧ J2 = Jat i := by
          cases hfr : freeOp p with
          | true =>
            exact chStep_J (fun t2 J2 hh => hh.1) (hne i p him hp) (qstep_free (h' := h') hfr (h3' i p him hp))
          | false =>
            have := chA_get (val := val) (t0 := s.t) hB (by omega) (ops.toList.take m) 0 (by rw [hlen]; omega) (fun i o hi => by
              rw [Nat.zero_add]
              rw [List.getElem?_take] at hi
              split at hi
              · simpa using hi
              · cases hi) (by simpa only [List.range_zero, List.reverse_nil, show ∀ t, tAt ops val t [] = t from fun _ => rfl] using hPost.1) i p (by rw [List.getElem?_take, if_pos him]; simpa using hp) (by rw [Nat.zero_add, hnrq, hfr]; rfl)
            rw [Nat.zero_add] at this
            exact chStep_J (fun t2 J2 hh => hh) (hne i p him hp) this
        have hdl : ∀ (t : List (Nat × TV)) (x : Nat), (∀ d, o.dst = some d → x ≠ d) → getT (dl o.dst r t) x = getT t x := fun t x hx => by
          unfold dl
          cases hod : o.dst with
          | none => rfl
          | some d => simp only [getT]; rw [if_neg (hx d hod)]
        have hnr : ∀ x ∈ reads ops p, ∀ d, o.dst = some d → x ≠ d := fun x hx d hod => by
          have := (hAd d hod i him).2
          rw [hp] at this
          have := List.all_eq_true.1 this x hx
          simpa using this
        have hned : ∀ d, o.dst = some d → di ≠ d := fun d hod => by rw [← hdi']; exact (hAd d hod i him).1
        refine (chStep_stepT (g := fun _ : Unit => h') (x := ()) (J' := Jat i) (v := val i) hdi (t' := dl o.dst r (part D)) (fun x hx => ?_) hst (fun he => by rw [hne i p him hp] at he; cases he) fun y hy1 hy2 => ?_).2
        · rw [hdl _ x (hnr x hx)]
          exact reads_agree hB him hp hall x hx
        · refine SLx.ext (s' := ⟨dl o.dst r (part (doneAt D i)), h'⟩) (.inr (.inl ⟨?_, fun j hj => ?_, fun j hj hw => ?_, r, h', hPost, rfl⟩)) (fun n => ?_) rfl
          · simp only [doneAt]; split; rfl; exact hF1
          · simp only [doneAt]; rw [if_neg (by omega)]; exact hF2 j hj
          · simp only [doneAt]; split; rfl; exact hF3 j hj hw
          · have := put_agree (t := s.t) (val := val) (D := D) hB him hdi' n
            have e1 : getT (part (doneAt D i)) n = getT ((di, val i) :: part D) n := this
            by_cases h1 : ∃ d, o.dst = some d ∧ n = d
            · obtain ⟨d, hod, rfl⟩ := h1
              simp only [dl, hod, getT]
              rw [if_pos trivial, if_neg (Ne.symm (hned n hod)), if_pos trivial]
            · have h2 : ∀ d, o.dst = some d → n ≠ d := fun d hod hnd => h1 ⟨d, hod, hnd⟩
              simp only
              rw [hdl _ n h2, e1]
              simp only [getT]
              split
              · rfl
              · rw [hdl _ n h2]
      · by_cases hie : i = m
        · rw [hie, hF1] at hD; cases hD
        · have hi1 : i = m + 1 := by
            by_cases h1 : m + 1 < i
            · have := hprev i p hp (by omega) D hall
              rw [hF2 (i - 1) (by omega)] at this; cases this
            · omega
          subst hi1
          have hall2 := hfirst p hp D hall
          rw [hfull D fun j hj => hall2 j (by omega)]
          have hPost := hPost.2
          rw [drop_at (show ops.toList[m + 1]? = some p by simpa using hp)] at hPost
          refine stepT_K (fun s'' hs'' => SLx.done (.inr (.inr ⟨m + 1 + 1, by omega, fun j hj => ?_, fun j hj => ?_, hs''⟩))) hPost
          · simp only [doneAt]; split; rfl; exact hall2 j (by omega)
          · simp only [doneAt]; rw [if_neg (by omega)]; exact hF2 j (by omega)
    · have hi : i = k := by
        by_cases h1 : i < k
        · rw [hk1 i h1] at hD; cases hD
        · by_cases h2 : k < i
          · have := hprev i p hp (by omega) D hall
            rw [hk2 (i - 1) (by omega)] at this; cases this
          · omega
      subst hi
      rw [drop_at (show ops.toList[i]? = some p by simpa using hp)] at hk3
      refine stepT_K (fun s'' hs'' => SLx.done (.inr (.inr ⟨i + 1, by omega, fun j hj => ?_, fun j hj => ?_, hs''⟩))) hk3
      · simp only [doneAt]; split; rfl; exact hk1 j (by omega)
      · simp only [doneAt]; rw [if_neg (by omega)]; exact hk2 j (by omega)
  · rcases hF with ⟨hF1, _, rfl⟩ | ⟨hF1, hF2, hF3, r, h', hPost, rfl⟩ | ⟨k, hk, hk1, hk2, hk3⟩
    · exact absurd (hall m hmlt) (by simp [hF1 m (Nat.le_refl _)])
    · have hsz : ops.size = m + 1 := by
        by_cases h1 : m + 1 < ops.size
        · have := hall (m + 1) h1; rw [hF2 (m + 1) (by omega)] at this; cases this
        · omega
      have : ops.toList.drop (m + 1) = [] := List.drop_eq_nil_of_le (by simp; omega)
      have hPost := hPost.2
      rw [this] at hPost
      rw [hfull D fun i hi => hall i (by omega)]
      exact hPost
    · have hsz : ops.size ≤ k := by
        by_cases h1 : k < ops.size
        · have := hall k h1; rw [hk2 k (Nat.le_refl _)] at this; cases this
        · omega
      have : ops.toList.drop k = [] := List.drop_eq_nil_of_le (by simpa using hsz)
      rw [this] at hk3
      exact hk3

/-- THE SAME, for use: operation m, whose answer is slot d. -/
theorem draw_one {s : TS} {K : TS → Prop} (m d : Nat) (hm : P.follows .mixedOrders = true) (hedge : edgesOk ops = true) (hB : quietB ops m = true) (hA : appB ops m = true) (hd : ((ops[m]?).bind (·.dst) == some d) = true)
    (h : match ops[m]? with | some o => chT P ops (fun _ : Unit => s.h) () (ops.toList.take m) (fun _ => True) s.t fun t1 _ => effT P d o.op ⟨t1, s.h⟩ fun r h' => opsT P ops (ops.toList.drop (m + 1)) ⟨(d, r) :: t1, h'⟩ K | none => False) : drawT P ops s K := by
  cases ho : ops[m]? with
  | none => rw [ho] at h; exact h.elim
  | some o =>
    rw [ho] at h hd
    exact draw_app m d o ho (by simpa using hd) hm hedge hB hA h

/-- Of a block's cells only the first ones are still known. -/
theorem SatH.trim {e : Ent} {E : Env} {h : Heap} {w : World} (H : SatH e E h w) {b ver : Nat} {B : Blk} (hb : getH h b = some (ver, B)) (m : Nat) (hk : B.k ≠ 0) : SatH e E (setH h b (ver, ⟨B.k, B.cells.take m⟩)) w := by
  refine ⟨H.imm, fun x ver' B' hx => ?_, fun x hx => ?_, H.vers, H.ownd, H.apart, H.gr⟩
  · rw [getH_setH] at hx
    by_cases hxb : x = b
    · subst hxb
      rw [if_pos rfl] at hx
      cases hx
      obtain ⟨R, h1, h2⟩ := H.live x ver B hb
      refine ⟨R, h1, ?_⟩
      rcases h2 with (⟨k0, k1, k2⟩ | ⟨q, k1, k2, k3, k4, k5⟩) | ⟨k0, _⟩
      · exact .inl (.inl ⟨k0, k1, by simp [k2]⟩)
      · exact .inl (.inr ⟨q, k1, k2, by simp only [List.length_take]; omega, k4, k5.take m⟩)
      · exact absurd k0 hk
    · rw [if_neg hxb] at hx
      exact H.live x ver' B' hx
  · rw [getH_setH] at hx
    by_cases hxb : x = b
    · rw [if_pos hxb] at hx; cases hx
    · rw [if_neg hxb] at hx; exact H.dead x hx
theorem VLx.trim {r : TV} {h : Heap} {S : TV → Heap → Prop} (b m : Nat) {ver : Nat} {B : Blk} (hb : getH h b = some (ver, B)) (k : VLx r (setH h b (ver, ⟨B.k, B.cells.take m⟩)) S) (hk : B.k ≠ 0 := by simp) : VLx r h S := fun e E w v H hr => k e E w v (H.trim hb m hk) hr
theorem SLx.trim {s : TS} {S : TS → Prop} (b m : Nat) {ver : Nat} {B : Blk} (hb : getH s.h b = some (ver, B)) (k : SLx ⟨s.t, setH s.h b (ver, ⟨B.k, B.cells.take m⟩)⟩ S) (hk : B.k ≠ 0 := by simp) : SLx s S := fun e E w tm H hT => k e E w tm (H.trim hb m hk) hT
end
end Go.Proofs.YtnkdkajllmopaaaGreat.TL

namespace Go.Proofs.YtnkdkajllmopaaaGreat.TL
open Go
set_option linter.unusedVariables false
set_option linter.unusedSimpArgs false

mutual
def mvT (b ver b' ver' : Nat) : TV → TV
  | .at b0 v o => if b0 = b ∧ v = ver then .at b' ver' o else .at b0 v o
  | .sl b0 v o n => if b0 = b ∧ v = ver then .sl b' ver' o n else .sl b0 v o n
  | .mp b0 v => if b0 = b ∧ v = ver then .mp b' ver' else .mp b0 v
  | .agg l => .agg (mvL b ver b' ver' l)
  | .tup l => .tup (mvL b ver b' ver' l)
  | .ifc t x => .ifc t (mvT b ver b' ver' x)
  | .opt g x => .opt g (mvT b ver b' ver' x)
  | .fn f c => .fn f (mvL b ver b' ver' c)
  | .v x => .v x
  | .isl c n => .isl c n
  | .iat c => .iat c
  | .any => .any
def mvL (b ver b' ver' : Nat) : List TV → List TV
  | [] => []
  | x :: l => mvT b ver b' ver' x :: mvL b ver b' ver' l
end
/-- The heap then: the block b bears the number b'. -/
def mvH (b ver b' ver' : Nat) (h : Heap) : Heap := h.map fun p => if p.1 = b then (b', ver', ⟨p.2.2.k, mvL b ver b' ver' p.2.2.cells⟩) else (p.1, p.2.1, ⟨p.2.2.k, mvL b ver b' ver' p.2.2.cells⟩)

theorem getH_mvH {b ver b' ver' : Nat} : ∀ (h : Heap), getH h b' = none → ∀ n, getH (mvH b ver b' ver' h) n = if n = b' then (getH h b).map (fun p => (ver', ⟨p.2.k, mvL b ver b' ver' p.2.cells⟩)) else if n = b then none else (getH h n).map fun p => (p.1, ⟨p.2.k, mvL b ver b' ver' p.2.cells⟩)
  | [], _, n => by simp [mvH, getH]
  | (k, x) :: l, hb', n => by
    simp only [getH] at hb'
    have hk' : b' ≠ k := fun h => by rw [if_pos h] at hb'; cases hb'
    rw [if_neg hk'] at hb'
    have ih := getH_mvH (b := b) (ver := ver) (ver' := ver') l hb' n
    simp only [mvH, List.map_cons] at ih ⊢
    by_cases hk : k = b
    · subst hk
      simp only [if_true, getH, ih]
      by_cases hn : n = b'
      · subst hn; simp
      · simp only [if_neg hn]
        by_cases hnk : n = k
        · rw [if_pos hnk, if_pos hnk]
        · rw [if_neg hnk, if_neg hnk, if_neg hnk]
    · simp only [if_neg hk, getH, ih, if_neg (Ne.symm hk)]
      by_cases hn : n = k
      · subst hn
        rw [if_pos rfl, if_neg (Ne.symm hk'), if_neg hk]
        simp
      · simp only [if_neg hn]

section
variable {P : Program} {e : Ent} {E : Env} {s : TS} {w : World}

def Env.mv (E : Env) (b b' : Nat) : Env := { I := E.I, ρ := fun x => if x = b' then (E.ρ b).map (fun p => (E.c + 1, p.2)) else if x = b then none else E.ρ x, c := E.c + 1 }
theorem Env.le_mv (E : Env) (b b' : Nat) : E.Le (E.mv b b') := ⟨Nat.le_succ _, fun _ _ _ x => x, fun x ver R hx hv => by
  simp only [Env.mv] at hx
  split at hx
  · obtain ⟨p, _, hp⟩ := Option.map_eq_some_iff.1 hx
    cases hp
    exact absurd hv (by omega)
  · split at hx
    · cases hx
    · exact hx⟩

mutual
theorem RV_mv {b ver b' : Nat} {R : Option Real} (hb : E.ρ b = some (ver, R)) : ∀ (x : TV) (y : Value), RV E x y → RV (E.mv b b') (mvT b ver b' (E.c + 1) x) y
  | .at b0 v o, y, hx => by
    simp only [mvT]
    split
    · rename_i hc
      obtain ⟨rfl, rfl⟩ := hc
      simp only [RV] at hx ⊢
      obtain ⟨p, h0, h1, h2⟩ := hx
      refine ⟨p, h0, by simp [Env.mv], fun R' hR' => h2 R' ?_⟩
      simp [Env.mv, hb] at hR'
      rw [hb, hR']
    · exact RV.mono (E.le_mv b b') _ _ hx
  | .sl b0 v o n, y, hx => by
    simp only [mvT]
    split
    · rename_i hc
      obtain ⟨rfl, rfl⟩ := hc
      simp only [RV] at hx ⊢
      obtain ⟨a, cap, h0, h1, h2, h3, h4⟩ := hx
      refine ⟨a, cap, h0, h1, h2, by simp [Env.mv], fun R' hR' => h4 R' ?_⟩
      simp [Env.mv, hb] at hR'
      rw [hb, hR']
    · exact RV.mono (E.le_mv b b') _ _ hx
  | .mp b0 v, y, hx => by
    simp only [mvT]
    split
    · rename_i hc
      obtain ⟨rfl, rfl⟩ := hc
      simp only [RV] at hx ⊢
      obtain ⟨p, h0, h1, h2⟩ := hx
      refine ⟨p, h0, by simp [Env.mv], fun R' hR' => h2 R' ?_⟩
      simp [Env.mv, hb] at hR'
      rw [hb, hR']
    · exact RV.mono (E.le_mv b b') _ _ hx
  | .agg l, _, hx => by
    simp only [mvT, RV] at hx ⊢
    obtain ⟨zs, h1, h2, h3⟩ := hx
    obtain ⟨k1, k2⟩ := RVl_mv hb l _ _ h3
    exact ⟨zs, h1, by rw [k1]; exact h2, k2⟩
  | .tup l, _, hx => by
    simp only [mvT, RV] at hx ⊢
    obtain ⟨zs, h1, h2, h3⟩ := hx
    obtain ⟨k1, k2⟩ := RVl_mv hb l _ _ h3
    exact ⟨zs, h1, by rw [k1]; exact h2, k2⟩
  | .fn f l, _, hx => by
    simp only [mvT, RV] at hx ⊢
    obtain ⟨zs, h1, h2, h3⟩ := hx
    obtain ⟨k1, k2⟩ := RVl_mv hb l _ _ h3
    exact ⟨zs, h1, by rw [k1]; exact h2, k2⟩
  | .ifc _ x, _, hx => by
    simp only [mvT, RV] at hx ⊢
    obtain ⟨z, h1, h2⟩ := hx
    exact ⟨z, h1, RV_mv hb x z h2⟩
  | .opt _ x, y, hx => by
    simp only [mvT, RV] at hx ⊢
    exact ⟨fun hg => RV_mv hb x y (hx.1 hg), hx.2⟩
  | .v _, y, hx => by simp only [mvT]; exact RV.mono (E.le_mv b b') _ _ hx
  | .isl _ _, y, hx => by simp only [mvT]; exact RV.mono (E.le_mv b b') _ _ hx
  | .iat _, y, hx => by simp only [mvT]; exact RV.mono (E.le_mv b b') _ _ hx
  | .any, y, hx => by simp only [mvT, RV]
theorem RVl_mv {b ver b' : Nat} {R : Option Real} (hb : E.ρ b = some (ver, R)) : ∀ (l : List TV) (f : Nat → Option Value) (o : Nat), RVl E l f o → (mvL b ver b' (E.c + 1) l).length = l.length ∧ RVl (E.mv b b') (mvL b ver b' (E.c + 1) l) f o
  | [], _, _, _ => by simp only [mvL, RVl, and_self]
  | x :: l, f, o, hx => by
    simp only [mvL, RVl] at hx ⊢
    obtain ⟨⟨v, h1, h2⟩, h3⟩ := hx
    obtain ⟨k1, k2⟩ := RVl_mv hb l f (o + 1) h3
    exact ⟨by simp [k1], ⟨v, h1, RV_mv hb x v h2⟩, k2⟩
end

theorem mvL_length {b ver b' ver' : Nat} : ∀ l : List TV, (mvL b ver b' ver' l).length = l.length
  | [] => rfl
  | x :: l => by simp [mvL, mvL_length l]

theorem SatH.mv {h : Heap} (H : SatH e E h w) {b ver b' : Nat} {B : Blk} (hb : getH h b = some (ver, B)) (hb' : getH h b' = none) : SatH e (E.mv b b') (mvH b ver b' (E.c + 1) h) w := by
  obtain ⟨R0, hR0, hB0⟩ := H.live b ver B hb
  have hbb : b ≠ b' := fun hh => by rw [← hh, hb] at hb'; cases hb'
  have blk : ∀ (B : Blk) R, BlkRel w E B R → BlkRel w (E.mv b b') ⟨B.k, mvL b ver b' (E.c + 1) B.cells⟩ R := fun B R hB => by
    exact BlkRel.conv (B := B) rfl (by simp only [mvL_length]) (fun f o hf => (RVl_mv hR0 B.cells _ _ hf).2) hB
  have back : ∀ x ver R, (E.mv b b').ρ x = some (ver, R) → ∃ y ver', E.ρ y = some (ver', R) ∧ (x = b' ∧ y = b ∨ x ≠ b' ∧ x ≠ b ∧ y = x ∧ ver' = ver) := fun x ver R hx => by
    simp only [Env.mv] at hx
    split at hx
    · obtain ⟨p, hp1, hp2⟩ := Option.map_eq_some_iff.1 hx
      cases hp2
      exact ⟨b, p.1, hp1, .inl ⟨‹_›, rfl⟩⟩
    · split at hx
      · cases hx
      · exact ⟨x, ver, hx, .inr ⟨‹_›, ‹_›, rfl, rfl⟩⟩
  refine ⟨H.imm, fun x ver' B' hx => ?_, fun x hx => ?_, fun x ver R hx => ?_, fun x ver q hx => ?_, fun x y ver ver' q q' hx hy hr => ?_, ?_⟩
  · rw [getH_mvH h hb'] at hx
    by_cases hxb : x = b'
    · subst hxb
      rw [if_pos rfl, hb] at hx
      cases hx
      exact ⟨R0, by simp [Env.mv, hR0], blk B R0 hB0⟩
    · rw [if_neg hxb] at hx
      by_cases hxb2 : x = b
      · rw [if_pos hxb2] at hx; cases hx
      · rw [if_neg hxb2] at hx
        obtain ⟨p, hp1, hp2⟩ := Option.map_eq_some_iff.1 hx
        cases hp2
        obtain ⟨R, h1, h2⟩ := H.live x p.1 p.2 hp1
        exact ⟨R, by simp [Env.mv, hxb, hxb2, h1], blk _ R h2⟩
  · rw [getH_mvH h hb'] at hx
    by_cases hxb : x = b'
    · rw [if_pos hxb, hb] at hx; cases hx
    · rw [if_neg hxb] at hx
      simp only [Env.mv, if_neg hxb]
      by_cases hxb2 : x = b
      · rw [if_pos hxb2]
      · rw [if_neg hxb2] at hx ⊢
        exact H.dead x (by simpa using hx)
  · simp only [Env.mv] at hx ⊢
    split at hx
    · obtain ⟨p, _, hp⟩ := Option.map_eq_some_iff.1 hx
      cases hp; exact Nat.le_refl _
    · split at hx
      · cases hx
      · exact Nat.le_succ_of_le (H.vers x ver R hx)
  · obtain ⟨y, ver', hy, _⟩ := back x ver _ hx
    exact H.ownd y ver' q hy
  · obtain ⟨x0, v0, hx0, c0⟩ := back x ver _ hx
    obtain ⟨y0, v1, hy0, c1⟩ := back y ver' _ hy
    have := H.apart _ _ _ _ _ _ hx0 hy0 hr
    rcases c0 with ⟨c0, c0'⟩ | ⟨c0, c00, c0', _⟩ <;> rcases c1 with ⟨c1, c1'⟩ | ⟨c1, c11, c1', _⟩
    · rw [c0, c1]
    · exact absurd (c1'.symm.trans (this.symm.trans c0')) c11
    · exact absurd (c0'.symm.trans (this.trans c1')) c00
    · exact c0'.symm.trans (this.trans c1')
  · exact ⟨H.gr.size, H.gr.frame, H.gr.os, H.gr.tape, H.gr.output, H.gr.le.trans (E.le_mv b b'), H.gr.newI⟩

/-- A BLOCK BEARS ANOTHER NUMBER. -/
theorem VLx.mv {r : TV} {h : Heap} {S : TV → Heap → Prop} (b b' : Nat) {ver : Nat} {B : Blk} (hb : getH h b = some (ver, B)) (hb' : getH h b' = none) (k : ∀ ver', VLx (mvT b ver b' ver' r) (mvH b ver b' ver' h) S) : VLx r h S := fun e E w v H hr =>
  let ⟨R, hR, _⟩ := H.live b ver B hb
  let ⟨r', h'', E', a, l, c, d⟩ := k (E.c + 1) e _ w v (H.mv hb hb') (RV_mv hR r v hr)
  ⟨r', h'', E', a, (E.le_mv b b').trans l, c, d⟩
theorem SLx.mv {s : TS} {S : TS → Prop} (b b' : Nat) {ver : Nat} {B : Blk} (hb : getH s.h b = some (ver, B)) (hb' : getH s.h b' = none) (k : ∀ ver', SLx ⟨s.t.map fun p => (p.1, mvT b ver b' ver' p.2), mvH b ver b' ver' s.h⟩ S) : SLx s S := fun e E w tmps H hT => by
  obtain ⟨R, hR, _⟩ := H.live b ver B hb
  refine SLx.step (k (E.c + 1)) (E.le_mv b b') (H.mv hb hb') (fun n => ?_)
  have : getT (s.t.map fun p => (p.1, mvT b ver b' (E.c + 1) p.2)) n = mvT b ver b' (E.c + 1) (getT s.t n) := by
    induction s.t with
    | nil => simp [getT, mvT]
    | cons p l ih =>
      obtain ⟨k, x⟩ := p
      simp only [List.map_cons, getT]
      by_cases hn : n = k
      · rw [if_pos hn, if_pos hn]
      · rw [if_neg hn, if_neg hn]; exact ih
  rw [this]
  exact RV_mv hR _ _ (hT n)

theorem SatH.nilCell {h : Heap} (H : SatH e E h w) (i j b k : Nat) {ver : Nat} {B : Blk} (hk : k ≠ 0) (hbi : b ≠ i) (hi : getH h i = some (ver, B)) (hj : B.cells[j]? = some (.v (.slice none 0 0))) :
    SatH e (E.slot b none) (setH (setH h b (E.c + 1, ⟨k, []⟩)) i (ver, ⟨B.k, B.cells.set j (.sl b (E.c + 1) 0 0)⟩)) w := by
  have H1 := H.nil b k hk
  have hi1 : getH (setH h b (E.c + 1, ⟨k, []⟩)) i = some (ver, B) := by rw [getH_setH, if_neg (Ne.symm hbi)]; exact hi
  refine ⟨H1.imm, fun x ver' B' hx => ?_, fun x hx => ?_, H1.vers, H1.ownd, H1.apart, H1.gr⟩
  · rw [getH_setH] at hx
    by_cases hxi : x = i
    · subst hxi
      rw [if_pos rfl] at hx
      cases hx
      obtain ⟨R, hR, hB⟩ := H1.live x ver B hi1
      refine ⟨R, hR, ?_⟩
      refine BlkRel.conv (B := B) rfl (by simp) (fun f o b5 => ?_) hB
      · refine RVl.of fun y z hz => ?_
        rw [List.getElem?_set] at hz
        split at hz
        · rename_i hy
          subst hy
          obtain ⟨v, v1, v2⟩ := b5.get _ _ hj
          simp only [RV] at v2
          subst v2
          split at hz
          · cases hz; exact ⟨_, v1, nil_new (s := ⟨[], h⟩) H⟩
          · cases hz
        · exact b5.get _ _ hz
    · rw [if_neg hxi] at hx
      exact H1.live x ver' B' hx
  · rw [getH_setH] at hx
    by_cases hxi : x = i
    · rw [if_pos hxi] at hx; cases hx
    · rw [if_neg hxi] at hx; exact H1.dead x hx
theorem VLx.nilCell {r : TV} {h : Heap} {S : TV → Heap → Prop} (i j b k : Nat) {ver : Nat} {B : Blk} (hk : k ≠ 0) (hbi : b ≠ i) (hi : getH h i = some (ver, B)) (hj : B.cells[j]? = some (.v (.slice none 0 0)))
    (n : ∀ v, VLx r (setH (setH h b (v, ⟨k, []⟩)) i (ver, ⟨B.k, B.cells.set j (.sl b v 0 0)⟩)) S) : VLx r h S := fun e E w v H hr =>
  let ⟨r', h'', E', a, l, c, d⟩ := n (E.c + 1) e _ w v (H.nilCell i j b k hk hbi hi hj) (hr.mono (H.le_slot b none) _ _)
  ⟨r', h'', E', a, (H.le_slot b none).trans l, c, d⟩
theorem SLx.nilCell {s : TS} {S : TS → Prop} (i j b k : Nat) {ver : Nat} {B : Blk} (hk : k ≠ 0) (hbi : b ≠ i) (hi : getH s.h i = some (ver, B)) (hj : B.cells[j]? = some (.v (.slice none 0 0)))
    (n : ∀ v, SLx ⟨s.t, setH (setH s.h b (v, ⟨k, []⟩)) i (ver, ⟨B.k, B.cells.set j (.sl b v 0 0)⟩)⟩ S) : SLx s S := fun e E w tmps H hT =>
  SLx.step (n (E.c + 1)) (H.le_slot b none) (H.nilCell i j b k hk hbi hi hj) (hT.mono (H.le_slot b none))

mutual
/-- What names no own block stays. -/
theorem mvT_clo {b ver b' ver' : Nat} : ∀ (x : TV), Clo x → mvT b ver b' ver' x = x
  | .at _ _ _, h => by simp only [Clo] at h
  | .sl _ _ _ _, h => by simp only [Clo] at h
  | .mp _ _, h => by simp only [Clo] at h
  | .agg l, h => by simp only [Clo] at h; simp only [mvT]; rw [mvL_clo l h]
  | .tup l, h => by simp only [Clo] at h; simp only [mvT]; rw [mvL_clo l h]
  | .fn f l, h => by simp only [Clo] at h; simp only [mvT]; rw [mvL_clo l h]
  | .ifc t x, h => by simp only [Clo] at h; simp only [mvT]; rw [mvT_clo x h]
  | .opt g x, h => by simp only [Clo] at h; simp only [mvT]; rw [mvT_clo x h]
  | .v _, _ => rfl
  | .isl _ _, _ => rfl
  | .iat _, _ => rfl
  | .any, _ => rfl
theorem mvL_clo {b ver b' ver' : Nat} : ∀ (l : List TV), CloL l → mvL b ver b' ver' l = l
  | [], _ => rfl
  | x :: l, h => by simp only [CloL] at h; simp only [mvL]; rw [mvT_clo x h.1, mvL_clo l h.2]
end
end
end Go.Proofs.YtnkdkajllmopaaaGreat.TL

